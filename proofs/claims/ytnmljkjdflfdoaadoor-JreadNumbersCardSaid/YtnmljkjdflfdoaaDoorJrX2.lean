import Derived.Test.YtnmljkjdflfdoaaDoorJrX1
set_option linter.all false
set_option linter.unusedVariables false
set_option linter.unusedSimpArgs false
set_option maxRecDepth 10000
namespace T
open Go Go.Aes Go.Proofs

/-- what a call of 'value' does -/
def VOk (n : Nat) : Prop := ∀ (deep : Nat) (s : Str) (d t : Bool) (r : Nat) (H : AH), IsFn H → H.get r = some (rs s d t) → 4 * s.length + 4 ≤ n → deep + s.length < 50000000 →
  match valF n deep s d t with
  | some q => ∃ H' row, EJ 22 [.ptr r 0, .int .i64 (deep : Int)] H = some (.val (.agg row) H') ∧ EV q.1 row ∧ Sr H H' r q.2.1 q.2.2.1 q.2.2.2
  | none => ∃ H', EJ 22 [.ptr r 0, .int .i64 (deep : Int)] H = some (.panic Wr H') ∧ Kp H H' (· = r)

/-- names, each once -/
def insB (l : List Str) (s : Str) : List Str := if l.contains s then l else l ++ [s]
def dd (ns : List Str) : List Str := ns.foldl insB []
theorem dd_snoc (ns : List Str) (s : Str) : dd (ns ++ [s]) = insB (dd ns) s := by simp [dd, List.foldl_append]
theorem insB_contains (l : List Str) (s x : Str) : (insB l s).contains x = (l.contains x || x == s) := by
  unfold insB
  split
  · rename_i h
    rw [Bool.eq_iff_iff]
    simp only [Bool.or_eq_true, beq_iff_eq]
    constructor
    · exact .inl
    · rintro (h1 | rfl)
      · exact h1
      · exact h
  · rw [Bool.eq_iff_iff]; simp
theorem dd_contains (ns : List Str) (x : Str) : (dd ns).contains x = ns.contains x := by
  have : ∀ (l acc : List Str), (l.foldl insB acc).contains x = (acc.contains x || l.contains x) := by
    intro l
    induction l with
    | nil => intro acc; simp
    | cons a l ih =>
      intro acc
      rw [List.foldl_cons, ih, insB_contains, List.contains_cons, Bool.or_assoc]
  simpa [dd] using this ns []
theorem upd_in : ∀ (ns : List Str) (s : Str), ns.contains s = true → upd (.str s) (.bool true) (setE ns) = some (setE ns)
  | [], s, h => by simp at h
  | n :: ns, s, h => by
    simp only [setE, List.map_cons, upd, keyEq]
    rw [show eqL s n = decide (s = n) from eqL_eq s n]
    by_cases hs : s = n
    · subst hs; simp
    · have ih := upd_in ns s (by simpa [hs] using h)
      simp only [hs, decide_false]
      simp only [setE] at ih
      rw [ih]
      rfl
theorem mset_ins {R : Type} [Mon R] {H : AH} [IsFn H] {r : Nat} {ns : List Str} (hg : H.get r = some (.map (setE ns))) (s : Str) (k : AV → AH → R) :
    qMset X 66 (.map (some r)) (.str s) (.bool true) H k = k Aes.undef (H.set r (some (.map (setE (insB ns s))))) := by
  have hu : upd (.str s) (.bool true) (setE ns) = some (setE (insB ns s)) := by
    unfold insB
    cases h : ns.contains s with
    | true => rw [if_pos rfl]; exact upd_in ns s h
    | false => rw [if_neg (by simp)]; exact upd_set ns s h
  unfold qMset mapSet
  simp only [und66, und9, keyTy, Bool.not_true, cond_false, okI_i (lt_i hg), hg, hu]
  rfl

/-- what a list (an object) under way is in memory -/
structure LI (o : Bool) (Hb H : AH) (r rb db vc sc mp : Nat) (deep : Nat) (k : Int) (j : JS) (ms : List Str) (nv lv : AV) (rows : List (List AV)) : Prop where
  sr : Sr Hb H r j.s j.d j.t
  hr : r < Hb.nx
  fb : IsFn Hb
  hrb : Hb.get rb = some (.cells [.ptr r 0])
  hdb : Hb.get db = some (.cells [.int .i64 (deep : Int)])
  hvc : H.get vc = some (.cells [.int .i64 k, .str [], nv, lv])
  hev : EVs j.vs rows
  hlv : LV H lv rows
  hnv : Ow H nv (strRows j.ns)
  nrb : rb ≠ r
  ndb : db ≠ r
  nvc : Hb.nx ≤ vc
  nl : ∀ i, lvAt lv i → Hb.nx ≤ i ∧ i ≠ vc
  nt : ∀ i, tkOf nv i → Hb.nx ≤ i
  hsc : o = true → H.get sc = some (.cells [.map (some mp)]) ∧ Hb.nx ≤ sc
  hmp : o = true → H.get mp = some (.map (setE ms)) ∧ Hb.nx ≤ mp

section
variable {o : Bool} {Hb H : AH} {r rb db vc sc mp deep : Nat} {k : Int} {j : JS} {ms : List Str} {nv lv : AV} {rows : List (List AV)}

theorem LI.fn (h : LI o Hb H r rb db vc sc mp deep k j ms nv lv rows) : IsFn H := h.sr.fn
theorem LI.grb (h : LI o Hb H r rb db vc sc mp deep k j ms nv lv rows) : H.get rb = some (.cells [.ptr r 0]) := by
  have := h.fb
  exact (h.sr.kp.keep rb (lt_i h.hrb) h.nrb).trans h.hrb
theorem LI.gdb (h : LI o Hb H r rb db vc sc mp deep k j ms nv lv rows) : H.get db = some (.cells [.int .i64 (deep : Int)]) := by
  have := h.fb
  exact (h.sr.kp.keep db (lt_i h.hdb) h.ndb).trans h.hdb
theorem LI.lvr (h : LI o Hb H r rb db vc sc mp deep k j ms nv lv rows) : ∀ i, lvAt lv i → ∃ cs, H.get i = some (.cells cs) ∧ 4 ≤ cs.length := by
  intro i ⟨n, hi⟩
  rcases h.hlv with ⟨h1, _⟩ | ⟨hne, j', h1, h2⟩
  · rw [h1] at hi; cases hi
  · rw [h1] at hi
    injection hi with hi
    subst hi
    refine ⟨_, h2, ?_⟩
    rw [flat4 (EVs.four h.hev)]
    have : 0 < rows.length := List.length_pos_iff.2 hne
    omega
/-- the reader goes on -/
theorem LI.move (h : LI o Hb H r rb db vc sc mp deep k j ms nv lv rows) {H1 : AH} {s : Str} {d t : Bool} (s1 : Sr H H1 r s d t) : LI o Hb H1 r rb db vc sc mp deep k { j with s := s, d := d, t := t } ms nv lv rows := by
  have i0 := h.fn
  have hr := h.hr
  have nvc := h.nvc
  have kp : ∀ i ob, H.get i = some ob → Hb.nx ≤ i → H1.get i = some ob := fun i ob hi hn => s1.other hi (by omega)
  exact {
    sr := h.sr.trans s1
    hr := hr
    fb := h.fb
    hrb := h.hrb
    hdb := h.hdb
    hvc := kp _ _ h.hvc nvc
    hev := h.hev
    hlv := h.hlv.keep fun i hi => by
      obtain ⟨cs, h1, _⟩ := h.lvr i hi
      rw [kp i _ h1 (h.nl i hi).1, h1]
    hnv := h.hnv.keep fun i hi => by rw [kp i _ (h.hnv.tok hi) (h.nt i hi), h.hnv.tok hi]
    nrb := h.nrb
    ndb := h.ndb
    nvc := nvc
    nl := h.nl
    nt := h.nt
    hsc := fun ho => ⟨kp _ _ (h.hsc ho).1 (h.hsc ho).2, (h.hsc ho).2⟩
    hmp := fun ho => ⟨kp _ _ (h.hmp ho).1 (h.hmp ho).2, (h.hmp ho).2⟩ }
/-- .. or stops -/
theorem LI.stop (h : LI o Hb H r rb db vc sc mp deep k j ms nv lv rows) {H1 : AH} (s1 : Kp H H1 (· = r)) : Kp Hb H1 (· = r) := h.sr.kp.trans s1 (fun _ _ h => h)

/-- a value more: its row written in its place, the list held by the variable -/
theorem LI.more (h : LI o Hb H r rb db vc sc mp deep k j ms nv lv rows) {v : Val} {row : List AV} (hv : EV v row) (hl : rows.length < 100000000000) :
    ∃ ja Ha Hz, (∀ {R : Type} [Mon R] (k : AV → AH → R), qApp 4 72 lv (.sl [zrow] .full) true none H k = k (.hsl ja 0 (rows.length + 1) (rows.length + 1) 4 true) Ha) ∧ IsFn Ha ∧ ja ≠ vc ∧
      (∀ {R : Type} [Mon R] (k : AV → R), qIa 4 (.hsl ja 0 (rows.length + 1) (rows.length + 1) 4 true) (.int .i64 (rows.length : Int)) k = k (.ptr ja (rows.length * 4))) ∧
      (∀ {R : Type} [Mon R] (k : AV → AH → R), qSt 4 (.ptr ja (rows.length * 4)) (.agg row) Ha (fun _ H => qSt 1 (.ptr vc 3) (.hsl ja 0 (rows.length + 1) (rows.length + 1) 4 true) H k) = k Aes.undef Hz) ∧
      LI o Hb Hz r rb db vc sc mp deep k { j with vs := j.vs ++ [v] } ms nv (.hsl ja 0 (rows.length + 1) (rows.length + 1) 4 true) (rows ++ [row]) := by
  have i0 := h.fn
  have hrx := h.hr
  have nvc := h.nvc
  have h4 := EVs.four h.hev
  obtain ⟨ja, Ha, ap, ia, ga, na, ka⟩ := h.hlv.app h4 hl
  have hbx := h.sr.kp.nx
  -- what the append left as it was
  have kp : ∀ i ob, H.get i = some ob → ¬ lvAt lv i → Ha.get i = some ob := fun i ob hi hn => (ka.keep i (lt_i hi) hn).trans hi
  have nolv : ∀ i ob, H.get i = some ob → (∀ cs, ob = .cells cs → cs.length < 4) → ¬ lvAt lv i := by
    intro i ob hi ho hlv
    obtain ⟨cs, h1, h2⟩ := h.lvr i hlv
    rw [hi] at h1
    injection h1 with h1
    have := ho cs h1
    omega
  have nolr : ¬ lvAt lv r := nolv r _ h.sr.at_ (fun cs e => by injection e with e; subst e; simp)
  have nolvc : ¬ lvAt lv vc := fun e => (h.nl vc e).2 rfl
  have gvc := kp vc _ h.hvc nolvc
  have hjv : ja ≠ vc := by have := lt_i h.hvc; omega
  have hrow4 := hv.four
  have hfl : rows.flatten.length = rows.length * 4 := flat4 h4
  obtain ⟨Hx, hHx⟩ : ∃ Hx, Hx = Ha.set ja (some (.cells (rows.flatten ++ row))) := ⟨_, rfl⟩
  have ix : IsFn Hx := by subst hHx; exact inferInstance
  have st1 : ∀ {R : Type} [Mon R] (k : AV → AH → R), qSt 4 (.ptr ja (rows.length * 4)) (.agg row) Ha k = k Aes.undef Hx := fun {R} _ k => by
    rw [hHx]
    exact qSt_tail ga hfl rfl hrow4 hv.ones k
  have gx : ∀ i, Hx.get i = if i = ja then some (.cells (rows.flatten ++ row)) else Ha.get i := fun i => by rw [hHx, get_set_i (lt_i ga)]
  have gvx : Hx.get vc = some (.cells [.int .i64 k, .str [], nv, lv]) := by rw [gx, if_neg (Ne.symm hjv)]; exact gvc
  obtain ⟨Hz, hHz⟩ : ∃ Hz, Hz = Hx.set vc (some (.cells [.int .i64 k, .str [], nv, .hsl ja 0 (rows.length + 1) (rows.length + 1) 4 true])) := ⟨_, rfl⟩
  have iz : IsFn Hz := by subst hHz; exact inferInstance
  have gz : ∀ i, Hz.get i = if i = vc then some (.cells [.int .i64 k, .str [], nv, .hsl ja 0 (rows.length + 1) (rows.length + 1) 4 true]) else if i = ja then some (.cells (rows.flatten ++ row)) else Ha.get i := fun i => by
    rw [hHz, get_set_i (lt_i gvx), gx]
  have st2 : ∀ {R : Type} [Mon R] (k' : AV → AH → R), qSt 1 (.ptr vc 3) (.hsl ja 0 (rows.length + 1) (rows.length + 1) 4 true) Hx k' = k' Aes.undef Hz := fun {R} _ k' => by
    rw [hHz]
    exact qSt_1 (o := 3) (v := .hsl ja 0 (rows.length + 1) (rows.length + 1) 4 true) gvx (by simp) rfl k'
  have old : ∀ i ob, H.get i = some ob → i ≠ vc → (∀ cs, ob = .cells cs → cs.length < 4) → Hz.get i = some ob := by
    intro i ob hi h1 h2
    have := lt_i hi
    rw [gz, if_neg h1, if_neg (by omega)]
    exact kp i ob hi (nolv i ob hi h2)
  have nxz : Hz.nx = Ha.nx := by rw [hHz, AH.nx_set, hHx, AH.nx_set]
  have nvr : r ≠ vc := by omega
  refine ⟨ja, Ha, Hz, ap, ia, hjv, fun {R} _ k' => ?_, fun {R} _ k' => by rw [st1, st2], ?_⟩
  · rw [qIa_hsl .i64 k' 4 ja 0 (rows.length + 1) (rows.length + 1) true rows.length (by omega), Nat.zero_add]
  · have hlast : ∀ i, lvAt (.hsl ja 0 (rows.length + 1) (rows.length + 1) 4 true) i → i = ja := fun i ⟨n, e⟩ => by injection e with e; exact e.symm
    refine {
      sr := ⟨⟨iz, ?_, fun i hi hp => ?_⟩, old r _ h.sr.at_ nvr (fun cs e => by injection e with e; subst e; simp)⟩
      hr := hrx
      fb := h.fb
      hrb := h.hrb
      hdb := h.hdb
      hvc := (by rw [gz, if_pos rfl])
      hev := EVs.append h.hev (EVs.one hv)
      hlv := .inr ⟨by simp, ja, by simp, ?_⟩
      hnv := h.hnv.keep fun i hi => ?_
      nrb := h.nrb
      ndb := h.ndb
      nvc := nvc
      nl := fun i hi => ?_
      nt := h.nt
      hsc := fun ho => ⟨old sc _ (h.hsc ho).1 ?_ (fun cs e => by injection e with e; subst e; simp), (h.hsc ho).2⟩
      hmp := fun ho => ⟨old mp _ (h.hmp ho).1 ?_ (fun cs e => by cases e), (h.hmp ho).2⟩ }
    · rw [nxz]; have := ka.nx; omega
    · have h1 : i ≠ vc := by omega
      have h2 : i ≠ ja := by omega
      rw [gz, if_neg h1, if_neg h2]
      refine (ka.keep i (by omega) (fun e => ?_)).trans (h.sr.kp.keep i hi hp)
      have := (h.nl i e).1
      omega
    · rw [gz, if_neg hjv, if_pos rfl, List.flatten_append]; simp
    · have ht := h.hnv.tok hi
      have h1 : i ≠ vc := by rintro rfl; rw [h.hvc] at ht; cases ht
      rw [old i _ ht h1 (fun cs e => by cases e), ht]
    · have := hlast i hi
      subst this
      exact ⟨by omega, hjv⟩
    · rintro rfl; have := (h.hsc ho).1.symm.trans h.hvc; injection this with this; injection this with this; simp at this
    · rintro rfl; have := (h.hmp ho).1.symm.trans h.hvc; cases this
/-- .. a name noted -/
theorem LI.mset (h : LI true Hb H r rb db vc sc mp deep k j ms nv lv rows) (n : Str) :
    (∀ {R : Type} [Mon R] (k : AV → AH → R), qMset X 66 (.map (some mp)) (.str n) (.bool true) H k = k Aes.undef (H.set mp (some (.map (setE (insB ms n)))))) ∧
      LI true Hb (H.set mp (some (.map (setE (insB ms n))))) r rb db vc sc mp deep k j (insB ms n) nv lv rows := by
  have i0 := h.fn
  have hm := (h.hmp rfl).1
  have hmx := (h.hmp rfl).2
  have hmi := lt_i hm
  have gz := fun i => get_set_i (H := H) (j := i) (o := some (AO.map (setE (insB ms n)))) hmi
  have hrx := h.hr
  have old : ∀ i ob, H.get i = some ob → (∀ es, ob ≠ .map es) → (H.set mp (some (.map (setE (insB ms n))))).get i = some ob := by
    intro i ob hi ho
    have : i ≠ mp := by rintro rfl; rw [hm] at hi; injection hi with hi; exact ho _ hi.symm
    rw [gz, if_neg this]; exact hi
  refine ⟨fun {R} _ k' => mset_ins hm n k', ?_⟩
  refine {
    sr := ⟨⟨inferInstance, by rw [AH.nx_set]; exact h.sr.kp.nx, fun i hi hp => ?_⟩, old r _ h.sr.at_ (fun es e => by cases e)⟩
    hr := h.hr
    fb := h.fb
    hrb := h.hrb
    hdb := h.hdb
    hvc := old vc _ h.hvc (fun es e => by cases e)
    hev := h.hev
    hlv := h.hlv.keep fun i hi => by
      obtain ⟨cs, h1, _⟩ := h.lvr i hi
      rw [old i _ h1 (fun es e => by cases e), h1]
    hnv := h.hnv.keep fun i hi => by rw [old i _ (h.hnv.tok hi) (fun es e => by cases e), h.hnv.tok hi]
    nrb := h.nrb
    ndb := h.ndb
    nvc := h.nvc
    nl := h.nl
    nt := h.nt
    hsc := fun ho => ⟨old sc _ (h.hsc ho).1 (fun es e => by cases e), (h.hsc ho).2⟩
    hmp := fun ho => ⟨by rw [gz, if_pos rfl], hmx⟩ }
  have : i ≠ mp := by omega
  rw [gz, if_neg this]
  exact h.sr.kp.keep i hi hp
theorem ow_appR {H : AH} [IsFn H] {v : AV} {rows : List (List AV)} (h : Ow H v rows) {n b : Nat} {tk' : Tk} {r : List AV} (hr : r.length = n) (hn : 0 < n) (hb : b ≤ 100000) (hl : (rows.length + 1) * (b + 1) < most)
    (hrs : ∀ x ∈ rows, x.length = n) (ha : allOne r = true) :
    ∃ v' H', (∀ {R : Type} [Mon R] (k : AV → AH → R), qApp n b v (.sl [r] tk') false none H k = k v' H') ∧ Ow H' v' (rows ++ [r]) ∧ Kp H H' (tkOf v) ∧ (∀ j, tkOf v' j → j = H.nx) := by
  rcases h with ⟨rfl, rfl⟩ | ⟨hne, t, rfl, ht⟩
  · refine ⟨_, _, fun {R} _ k => ?_, .inr ⟨by simp, H.nx, rfl, get_push_at _⟩, Kp.push _ _, fun j hj => ?_⟩
    · unfold qApp
      rw [app_new hr hn hb hl hrs (.inl rfl)]
      exact qHp_some _ _ _
    · obtain ⟨x, hx⟩ := hj; injection hx with _ hx; injection hx with hx; exact hx.symm
  · have htl := lt_i ht
    refine ⟨_, (H.set t none).push .tok, fun {R} _ k => ?_, .inr ⟨by simp, H.nx, rfl, ?_⟩, ?_, fun j hj => ?_⟩
    · unfold qApp
      rw [app_own hr hn hb hl hrs hne ha ht]
      exact qHp_some _ _ _
    · have := get_push_at (H := H.set t none) .tok
      rwa [AH.nx_set] at this
    · exact (Kp.set none htl).trans (Kp.push _ (fun _ => False)) (fun _ _ h => h.elim) |>.mono (fun j _ e => ⟨rows, by rw [e]⟩)
    · obtain ⟨x, hx⟩ := hj; injection hx with _ hx; injection hx with hx; exact hx.symm
/-- .. a name more -/
theorem LI.name (h : LI o Hb H r rb db vc sc mp deep k j ms nv lv rows) (n : Str) (hl : j.ns.length < 100000000000) :
    ∃ nv' Ha Hz, (∀ {R : Type} [Mon R] (k : AV → AH → R), qApp 1 16 nv (.sl [[.str n]] .full) false none H k = k nv' Ha) ∧
      (∀ {R : Type} [Mon R] (k : AV → AH → R), qSt 1 (.ptr vc 2) nv' Ha k = k Aes.undef Hz) ∧
      LI o Hb Hz r rb db vc sc mp deep k { j with ns := j.ns ++ [n] } ms nv' lv rows := by
  have i0 := h.fn
  have hrx := h.hr
  have nvc := h.nvc
  have hbx := h.sr.kp.nx
  obtain ⟨nv', Ha, ap, ow, ka, tn⟩ := ow_appR h.hnv (n := 1) (b := 16) (tk' := .full) (r := [.str n]) rfl (by omega) (by omega) (by rw [strRows_len]; unfold most; omega) (fun x hx => by
    obtain ⟨y, _, rfl⟩ := List.mem_map.1 hx; rfl) rfl
  have ia := ka.fn
  have notk : ∀ i ob, H.get i = some ob → ob ≠ .tok → ¬ tkOf nv i := fun i ob hi ho ht => by
    rw [h.hnv.tok ht] at hi; injection hi with hi; exact ho hi.symm
  have kp : ∀ i ob, H.get i = some ob → ob ≠ .tok → Ha.get i = some ob := fun i ob hi ho => (ka.keep i (lt_i hi) (notk i ob hi ho)).trans hi
  have gvc := kp vc _ h.hvc (by simp)
  obtain ⟨Hz, hHz⟩ : ∃ Hz, Hz = Ha.set vc (some (.cells [.int .i64 k, .str [], nv', lv])) := ⟨_, rfl⟩
  have iz : IsFn Hz := by subst hHz; exact inferInstance
  have gz : ∀ i, Hz.get i = if i = vc then some (.cells [.int .i64 k, .str [], nv', lv]) else Ha.get i := fun i => by rw [hHz, get_set_i (lt_i gvc)]
  have st : ∀ {R : Type} [Mon R] (k' : AV → AH → R), qSt 1 (.ptr vc 2) nv' Ha k' = k' Aes.undef Hz := fun {R} _ k' => by
    rw [hHz]
    obtain ⟨tk, htk⟩ := ow.sl
    subst htk
    exact qSt_1 (o := 2) gvc (by simp) rfl k'
  have old : ∀ i ob, H.get i = some ob → i ≠ vc → ob ≠ .tok → Hz.get i = some ob := by
    intro i ob hi h1 h2
    rw [gz, if_neg h1]
    exact kp i ob hi h2
  have nxz : Hz.nx = Ha.nx := by rw [hHz, AH.nx_set]
  have nvr : r ≠ vc := by omega
  have nx1 := ka.nx
  refine ⟨nv', Ha, Hz, ap, st, ?_⟩
  refine {
    sr := ⟨⟨iz, ?_, fun i hi hp => ?_⟩, old r _ h.sr.at_ nvr (by unfold rs; simp)⟩
    hr := hrx
    fb := h.fb
    hrb := h.hrb
    hdb := h.hdb
    hvc := (by rw [gz, if_pos rfl])
    hev := h.hev
    hlv := h.hlv.keep fun i hi => ?_
    hnv := ?_
    nrb := h.nrb
    ndb := h.ndb
    nvc := nvc
    nl := h.nl
    nt := fun i hi => ?_
    hsc := fun ho => ⟨old sc _ (h.hsc ho).1 ?_ (by simp), (h.hsc ho).2⟩
    hmp := fun ho => ⟨old mp _ (h.hmp ho).1 ?_ (by simp), (h.hmp ho).2⟩ }
  · omega
  · have h1 : i ≠ vc := by omega
    rw [gz, if_neg h1]
    refine (ka.keep i (by omega) (fun e => ?_)).trans (h.sr.kp.keep i hi hp)
    have := h.nt i e
    omega
  · obtain ⟨cs, h1, _⟩ := h.lvr i hi
    rw [old i _ h1 (h.nl i hi).2 (by simp), h1]
  · have hv : strRows j.ns ++ [[AV.str n]] = strRows (j.ns ++ [n]) := by simp [strRows]
    rw [← hv]
    refine ow.keep fun i hi => ?_
    have h1 : i ≠ vc := by have := tn i hi; have := lt_i h.hvc; omega
    rw [gz, if_neg h1]
  · have := tn i hi
    omega
  · rintro rfl; have := (h.hsc ho).1.symm.trans h.hvc; injection this with this; injection this with this; simp at this
  · rintro rfl; have := (h.hmp ho).1.symm.trans h.hvc; cases this
end
end T
set_option linter.unusedVariables false
set_option linter.unusedSimpArgs false
set_option maxRecDepth 10000
namespace T
open Go Go.Aes Go.Proofs

def ptN (o : Bool) : Nat := if o then 35 else 34
def ptA (o : Bool) (rb db vc sc : Nat) : List AV := if o then [.ptr rb 0, .ptr sc 0, .ptr vc 0, .ptr db 0] else [.ptr vc 0, .ptr rb 0, .ptr db 0]
/-- lengths stay within bounds -/
def JBd (deep : Nat) (j : JS) : Prop := deep + 1 + j.s.length < 50000000 ∧ j.vs.length + j.s.length < 50000000 ∧ j.ns.length + j.s.length < 50000000
def JPt (n : Nat) (o : Bool) : Prop := ∀ (deep : Nat) (Hb H : AH) (r rb db vc sc mp : Nat) (k : Int) (j : JS) (nv lv : AV) (rows : List (List AV)), LI o Hb H r rb db vc sc mp deep k j (dd j.ns) nv lv rows →
  4 * j.s.length + 5 ≤ n → JBd deep j →
  match ptF n o deep j with
  | some j' => ∃ H' nv' lv' rows', EJ (ptN o) (ptA o rb db vc sc) H = some (.val (.tup []) H') ∧ LI o Hb H' r rb db vc sc mp deep k j' (dd j'.ns) nv' lv' rows'
  | none => ∃ H', EJ (ptN o) (ptA o rb db vc sc) H = some (.panic Wr H') ∧ Kp Hb H' (· = r)

theorem rows26 {R : Type} [Mon R] (k : AV → R) : qRows z26 1 [(0, .agg [.int .i64 0, .str [], .sl [] .nil, .sl [] .nil])] k = k (.sl [zrow] .full) := by kernel_rfl
theorem rows9 {R : Type} [Mon R] (s : Str) (k : AV → R) : qRows z9 1 [(0, .str s)] k = k (.sl [[.str s]] .full) := by kernel_rfl

theorem pt34 {n : Nat} (hv : VOk n) : JPt (n + 1) false := by
  intro deep Hb H r rb db vc sc mp k j nv lv rows h hn hb
  obtain ⟨b1, b2, b3⟩ := hb
  have i0 := h.fn
  have h22 := hv (deep + 1) j.s j.d j.t r H i0 h.sr.at_ (by omega) (by omega)
  have hw : IntKind.i64.wrap ((deep : Int) + 1) = ((deep + 1 : Nat) : Int) := wrap_up deep (by omega)
  have l1 := fun (k' : AV → RP) => ldR h.hvc 3 lv rfl k'
  have l2 := fun (k' : AV → RP) => ldR h.grb 0 (.ptr r 0) rfl k'
  have l3 := fun (k' : AV → RP) => ldR h.gdb 0 (.int .i64 (deep : Int)) rfl k'
  have ln := fun (k' : AV → RP) => h.hlv.len k'
  unfold ptF ptN ptA
  simp only [Bool.false_eq_true, if_false]
  cases hq : valF n (deep + 1) j.s j.d j.t with
  | none =>
    rw [hq] at h22
    simp only [] at h22
    obtain ⟨H2, hc, kp⟩ := h22
    simp only [Option.map_none]
    obtain ⟨H', h1, rfl⟩ := jpan (P := fun H' => H' = H2) (al := [.ptr vc 0, .ptr rb 0, .ptr db 0]) (H := H) e34 xf34 rfl rfl (by
      simp -implicitDefEqProofs only [c34, r34_0, opn_z, opn_s, sel_z, sel_s, qCd_eq, qIf_true, qIf_false, qFn_eq, qBl_eq, qO_some, qRes_val, qHp_some, qPick_true, qPick_false, qG_tt, qG_ff, qG_tf, qG_ft, cellsK_some, qLd_vptr, qLdA_vptr, qFa_ptr, qFa_vptr, qNc_ptr, qNc_vptr, qNc_fn, qNot_bool, qExt_tup, qCallV_fn, qLss_int, qLeq_int, qGtr_int, qGeq_int, qEql_int, qNeq_int, qAdd_int, qSub_int, qMul_int, qConvI_int, qLenL_sl, qLenL_hsl, qLenS_str, foldO, min2_int, max2_int, qSame_refl, Nat.zero_add, List.getElem?_cons_zero, List.getElem?_cons_succ, List.nil_append, List.cons_append, List.append_nil, one_bool, one_int, one_str, one_nilp, one_ptr, one_sl, one_hsl, one_map, one_fn, List.length_cons, List.length_nil, List.set_cons_zero, List.set_cons_succ, Nat.reduceLT, Nat.reduceAdd, qG_un, qResN_val, qCallVN_fn, l1, l2, l3, hw, ln, rows26, hc, qRes_pan, rp_pan]
      exact ⟨trivial, trivial⟩)
    exact ⟨_, h1, h.stop kp⟩
  | some q =>
    rw [hq] at h22
    simp only [] at h22
    obtain ⟨H2, row, hc, ev, s2⟩ := h22
    simp only [Option.map_some]
    have g := h.move s2
    have i2 := g.fn
    have hrl := EVs.len h.hev
    obtain ⟨ja, Ha, Hz, ap, ia, hne, ixx, st, g2⟩ := g.more ev (by rw [hrl]; omega)
    have l4 := fun (k' : AV → RP) => ldR g.hvc 3 lv rfl k'
    have ap' := fun (k' : AV → AH → RP) => ap k'
    have ix' := fun (k' : AV → RP) => ixx k'
    have st' := fun (k' : AV → AH → RP) => st k'
    obtain ⟨v, H', h1, rfl, rfl⟩ := jval (Q := fun v H' => v = .tup [] ∧ H' = Hz) (al := [.ptr vc 0, .ptr rb 0, .ptr db 0]) (H := H) e34 xf34 rfl rfl rfl (by
      simp -implicitDefEqProofs only [c34, r34_0, opn_z, opn_s, sel_z, sel_s, qCd_eq, qIf_true, qIf_false, qFn_eq, qBl_eq, qO_some, qRes_val, qHp_some, qPick_true, qPick_false, qG_tt, qG_ff, qG_tf, qG_ft, cellsK_some, qLd_vptr, qLdA_vptr, qFa_ptr, qFa_vptr, qNc_ptr, qNc_vptr, qNc_fn, qNot_bool, qExt_tup, qCallV_fn, qLss_int, qLeq_int, qGtr_int, qGeq_int, qEql_int, qNeq_int, qAdd_int, qSub_int, qMul_int, qConvI_int, qLenL_sl, qLenL_hsl, qLenS_str, foldO, min2_int, max2_int, qSame_refl, Nat.zero_add, List.getElem?_cons_zero, List.getElem?_cons_succ, List.nil_append, List.cons_append, List.append_nil, one_bool, one_int, one_str, one_nilp, one_ptr, one_sl, one_hsl, one_map, one_fn, List.length_cons, List.length_nil, List.set_cons_zero, List.set_cons_succ, Nat.reduceLT, Nat.reduceAdd, qG_un, qResN_val, qCallVN_fn, l1, l2, l3, l4, hw, ln, rows26, hc, ap', ix', qTwin_ptr _ _ _ _ _ hne, st']
      exact ⟨trivial, trivial⟩)
    exact ⟨_, _, _, _, h1, g2⟩

theorem qSt_t {R : Type} [Mon R] {H : AH} [IsFn H] {r : Nat} {s : Str} {d t : Bool} (hg : H.get r = some (rs s d t)) (b : Bool) (k : AV → AH → R) : qSt 1 (.ptr r 2) (.bool b) H k = k Aes.undef (H.set r (some (rs s d b))) := qSt_1 (o := 2) (v := .bool b) hg (by simp) rfl k
theorem pt35 {n : Nat} (hv : VOk n) : JPt (n + 1) true := by
  intro deep Hb H r rb db vc sc mp k j nv lv rows h hn hb
  obtain ⟨b1, b2, b3⟩ := hb
  have i0 := h.fn
  obtain ⟨H1, h36, s1⟩ := j36 h.sr.at_ (by omega)
  have l1 := fun (k' : AV → RP) => ldR h.grb 0 (.ptr r 0) rfl k'
  unfold ptF ptN ptA
  simp only [if_true]
  cases hnm : nameF j.s with
  | none =>
    rw [hnm] at h36 s1
    simp only [] at h36 s1
    simp only [Option.bind_none]
    obtain ⟨H', e1, rfl⟩ := jpan (P := fun H' => H' = H1) (al := [.ptr rb 0, .ptr sc 0, .ptr vc 0, .ptr db 0]) (H := H) e35 xf35 rfl rfl (by
      simp -implicitDefEqProofs only [c35, r35_0, opn_z, opn_s, sel_z, sel_s, qCd_eq, qIf_true, qIf_false, qFn_eq, qBl_eq, qO_some, qRes_val, qHp_some, qPick_true, qPick_false, qG_tt, qG_ff, qG_tf, qG_ft, cellsK_some, qLd_vptr, qLdA_vptr, qFa_ptr, qFa_vptr, qNc_ptr, qNc_vptr, qNc_fn, qNot_bool, qExt_tup, qCallV_fn, qLss_int, qLeq_int, qGtr_int, qGeq_int, qEql_int, qNeq_int, qAdd_int, qSub_int, qMul_int, qConvI_int, qLenL_sl, qLenL_hsl, qLenS_str, foldO, min2_int, max2_int, qSame_refl, Nat.zero_add, List.getElem?_cons_zero, List.getElem?_cons_succ, List.nil_append, List.cons_append, List.append_nil, one_bool, one_int, one_str, one_nilp, one_ptr, one_sl, one_hsl, one_map, one_fn, List.length_cons, List.length_nil, List.set_cons_zero, List.set_cons_succ, Nat.reduceLT, Nat.reduceAdd, qG_un, qResN_val, qCallVN_fn, l1, h36, qRes_pan, rp_pan]
      exact ⟨trivial, trivial⟩)
    exact ⟨_, e1, h.stop s1⟩
  | some p =>
    rw [hnm] at h36 s1
    simp only [] at h36 s1
    simp only [Option.bind_some]
    have hpl := nameF_lt hnm
    have g1 := h.move s1
    have i1 := g1.fn
    have l2 := fun (k' : AV → RP) => ldR g1.grb 0 (.ptr r 0) rfl k'
    have l3 := fun (k' : AV → RP) => ldR (g1.hsc rfl).1 0 (.map (some mp)) rfl k'
    have l4 := fun (k' : AV → RP) => ldR g1.sr.at_ 2 (.bool j.t) rfl k'
    have lk := lookup_set (g1.hmp rfl).1 p.1
    rw [dd_contains] at lk
    have s2 := Sr.set (s' := p.2) (d' := j.d) (t' := j.t || j.ns.contains p.1) g1.sr.at_
    have st2 := fun (k' : AV → AH → RP) => qSt_t g1.sr.at_ (j.t || j.ns.contains p.1) k'
    simp only [] at st2
    have tw : ∀ {P : AV → AH → Prop} {kk : KT RP}, kk [.ptr rb 0, .ptr sc 0, .ptr vc 0, .ptr db 0, .str p.1] (H1.set r (some (rs p.2 j.d (j.t || j.ns.contains p.1)))) P → r35_1 (R := RP) kk [.ptr rb 0, .ptr sc 0, .ptr vc 0, .ptr db 0, .str p.1] H1 P := by
      intro P kk hk
      cases ht : j.t with
      | true =>
        rw [ht] at l4 st2 hk
        simp only [Bool.true_or] at st2 hk
        simp -implicitDefEqProofs only [r35_1, opn_z, opn_s, sel_z, sel_s, qCd_eq, qIf_true, qIf_false, qFn_eq, qBl_eq, qO_some, qRes_val, qHp_some, qPick_true, qPick_false, qG_tt, qG_ff, qG_tf, qG_ft, cellsK_some, qLd_vptr, qLdA_vptr, qFa_ptr, qFa_vptr, qNc_ptr, qNc_vptr, qNc_fn, qNot_bool, qExt_tup, qCallV_fn, qLss_int, qLeq_int, qGtr_int, qGeq_int, qEql_int, qNeq_int, qAdd_int, qSub_int, qMul_int, qConvI_int, qLenL_sl, qLenL_hsl, qLenS_str, foldO, min2_int, max2_int, qSame_refl, Nat.zero_add, List.getElem?_cons_zero, List.getElem?_cons_succ, List.nil_append, List.cons_append, List.append_nil, one_bool, one_int, one_str, one_nilp, one_ptr, one_sl, one_hsl, one_map, one_fn, List.length_cons, List.length_nil, List.set_cons_zero, List.set_cons_succ, Nat.reduceLT, Nat.reduceAdd, qG_un, qResN_val, qCallVN_fn, l2, l3, l4, st2]
        exact hk
      | false =>
        rw [ht] at l4 st2 hk
        simp only [Bool.false_or] at st2 hk
        simp -implicitDefEqProofs only [r35_1, opn_z, opn_s, sel_z, sel_s, qCd_eq, qIf_true, qIf_false, qFn_eq, qBl_eq, qO_some, qRes_val, qHp_some, qPick_true, qPick_false, qG_tt, qG_ff, qG_tf, qG_ft, cellsK_some, qLd_vptr, qLdA_vptr, qFa_ptr, qFa_vptr, qNc_ptr, qNc_vptr, qNc_fn, qNot_bool, qExt_tup, qCallV_fn, qLss_int, qLeq_int, qGtr_int, qGeq_int, qEql_int, qNeq_int, qAdd_int, qSub_int, qMul_int, qConvI_int, qLenL_sl, qLenL_hsl, qLenS_str, foldO, min2_int, max2_int, qSame_refl, Nat.zero_add, List.getElem?_cons_zero, List.getElem?_cons_succ, List.nil_append, List.cons_append, List.append_nil, one_bool, one_int, one_str, one_nilp, one_ptr, one_sl, one_hsl, one_map, one_fn, List.length_cons, List.length_nil, List.set_cons_zero, List.set_cons_succ, Nat.reduceLT, Nat.reduceAdd, qG_un, qResN_val, qCallVN_fn, l2, l3, l4, lk, st2]
        exact hk
    generalize H1.set r (some (rs p.2 j.d (j.t || j.ns.contains p.1))) = H2 at s2 tw
    have g2 := g1.move s2
    have i2 := g2.fn
    have l5 := fun (k' : AV → RP) => ldR (g2.hsc rfl).1 0 (.map (some mp)) rfl k'
    obtain ⟨ms3, g3⟩ := g2.mset p.1
    have ms3' := fun (k' : AV → AH → RP) => ms3 k'
    clear ms3
    generalize H2.set mp (some (.map (setE (insB (dd j.ns) p.1)))) = H3 at ms3' g3
    have i3 := g3.fn
    have l6 := fun (k' : AV → RP) => ldR g3.grb 0 (.ptr r 0) rfl k'
    obtain ⟨H4, h37, s4⟩ := j37 g3.sr.at_ [58]
    simp only [] at h37 s4
    cases hc : hasB p.2 [58] with
    | false =>
      rw [hc] at h37
      simp only [Bool.false_eq_true, if_false] at h37 ⊢
      obtain ⟨H', e1, rfl⟩ := jpan (P := fun H' => H' = H4) (al := [.ptr rb 0, .ptr sc 0, .ptr vc 0, .ptr db 0]) (H := H) e35 xf35 rfl rfl (by
        simp -implicitDefEqProofs only [c35, r35_0, opn_z, opn_s, sel_z, sel_s, qCd_eq, qIf_true, qIf_false, qFn_eq, qBl_eq, qO_some, qRes_val, qHp_some, qPick_true, qPick_false, qG_tt, qG_ff, qG_tf, qG_ft, cellsK_some, qLd_vptr, qLdA_vptr, qFa_ptr, qFa_vptr, qNc_ptr, qNc_vptr, qNc_fn, qNot_bool, qExt_tup, qCallV_fn, qLss_int, qLeq_int, qGtr_int, qGeq_int, qEql_int, qNeq_int, qAdd_int, qSub_int, qMul_int, qConvI_int, qLenL_sl, qLenL_hsl, qLenS_str, foldO, min2_int, max2_int, qSame_refl, Nat.zero_add, List.getElem?_cons_zero, List.getElem?_cons_succ, List.nil_append, List.cons_append, List.append_nil, one_bool, one_int, one_str, one_nilp, one_ptr, one_sl, one_hsl, one_map, one_fn, List.length_cons, List.length_nil, List.set_cons_zero, List.set_cons_succ, Nat.reduceLT, Nat.reduceAdd, qG_un, qResN_val, qCallVN_fn, l1, h36]
        refine tw ?_
        simp -implicitDefEqProofs only [r35_2, r35_3, opn_z, opn_s, sel_z, sel_s, qCd_eq, qIf_true, qIf_false, qFn_eq, qBl_eq, qO_some, qRes_val, qHp_some, qPick_true, qPick_false, qG_tt, qG_ff, qG_tf, qG_ft, cellsK_some, qLd_vptr, qLdA_vptr, qFa_ptr, qFa_vptr, qNc_ptr, qNc_vptr, qNc_fn, qNot_bool, qExt_tup, qCallV_fn, qLss_int, qLeq_int, qGtr_int, qGeq_int, qEql_int, qNeq_int, qAdd_int, qSub_int, qMul_int, qConvI_int, qLenL_sl, qLenL_hsl, qLenS_str, foldO, min2_int, max2_int, qSame_refl, Nat.zero_add, List.getElem?_cons_zero, List.getElem?_cons_succ, List.nil_append, List.cons_append, List.append_nil, one_bool, one_int, one_str, one_nilp, one_ptr, one_sl, one_hsl, one_map, one_fn, List.length_cons, List.length_nil, List.set_cons_zero, List.set_cons_succ, Nat.reduceLT, Nat.reduceAdd, qG_un, qResN_val, qCallVN_fn, l5, ms3', l6, h37, qRes_pan, rp_pan]
        exact ⟨trivial, trivial⟩)
      exact ⟨_, e1, g3.stop s4.kp⟩
    | true =>
      rw [hc] at h37
      simp only [if_true] at h37 ⊢
      have hsl := hasS_le p.2 [58]
      have g4 := g3.move s4
      have i4 := g4.fn
      have l7 := fun (k' : AV → RP) => ldR g4.hvc 2 nv rfl k'
      obtain ⟨nv5, Ha5, H5, ap5, st5, g5⟩ := g4.name p.1 (by simp only []; omega)
      have ap5' := fun (k' : AV → AH → RP) => ap5 k'
      have st5' := fun (k' : AV → AH → RP) => st5 k'
      have i5 := g5.fn
      have l8 := fun (k' : AV → RP) => ldR g5.hvc 3 lv rfl k'
      have l9 := fun (k' : AV → RP) => ldR g5.grb 0 (.ptr r 0) rfl k'
      have l10 := fun (k' : AV → RP) => ldR g5.gdb 0 (.int .i64 (deep : Int)) rfl k'
      have ln := fun (k' : AV → RP) => g5.hlv.len k'
      have hw : IntKind.i64.wrap ((deep : Int) + 1) = ((deep + 1 : Nat) : Int) := wrap_up deep (by omega)
      have h22 := hv (deep + 1) (hasS p.2 [58]) j.d (j.t || j.ns.contains p.1) r H5 i5 g5.sr.at_ (by omega) (by omega)
      cases hq : valF n (deep + 1) (hasS p.2 [58]) j.d (j.t || j.ns.contains p.1) with
      | none =>
        rw [hq] at h22
        simp only [] at h22
        obtain ⟨H6, hc6, kp⟩ := h22
        simp only [Option.map_none]
        obtain ⟨H', e1, rfl⟩ := jpan (P := fun H' => H' = H6) (al := [.ptr rb 0, .ptr sc 0, .ptr vc 0, .ptr db 0]) (H := H) e35 xf35 rfl rfl (by
          simp -implicitDefEqProofs only [c35, r35_0, opn_z, opn_s, sel_z, sel_s, qCd_eq, qIf_true, qIf_false, qFn_eq, qBl_eq, qO_some, qRes_val, qHp_some, qPick_true, qPick_false, qG_tt, qG_ff, qG_tf, qG_ft, cellsK_some, qLd_vptr, qLdA_vptr, qFa_ptr, qFa_vptr, qNc_ptr, qNc_vptr, qNc_fn, qNot_bool, qExt_tup, qCallV_fn, qLss_int, qLeq_int, qGtr_int, qGeq_int, qEql_int, qNeq_int, qAdd_int, qSub_int, qMul_int, qConvI_int, qLenL_sl, qLenL_hsl, qLenS_str, foldO, min2_int, max2_int, qSame_refl, Nat.zero_add, List.getElem?_cons_zero, List.getElem?_cons_succ, List.nil_append, List.cons_append, List.append_nil, one_bool, one_int, one_str, one_nilp, one_ptr, one_sl, one_hsl, one_map, one_fn, List.length_cons, List.length_nil, List.set_cons_zero, List.set_cons_succ, Nat.reduceLT, Nat.reduceAdd, qG_un, qResN_val, qCallVN_fn, l1, h36]
          refine tw ?_
          simp -implicitDefEqProofs only [r35_2, r35_3, r35_4, r35_5, opn_z, opn_s, sel_z, sel_s, qCd_eq, qIf_true, qIf_false, qFn_eq, qBl_eq, qO_some, qRes_val, qHp_some, qPick_true, qPick_false, qG_tt, qG_ff, qG_tf, qG_ft, cellsK_some, qLd_vptr, qLdA_vptr, qFa_ptr, qFa_vptr, qNc_ptr, qNc_vptr, qNc_fn, qNot_bool, qExt_tup, qCallV_fn, qLss_int, qLeq_int, qGtr_int, qGeq_int, qEql_int, qNeq_int, qAdd_int, qSub_int, qMul_int, qConvI_int, qLenL_sl, qLenL_hsl, qLenS_str, foldO, min2_int, max2_int, qSame_refl, Nat.zero_add, List.getElem?_cons_zero, List.getElem?_cons_succ, List.nil_append, List.cons_append, List.append_nil, one_bool, one_int, one_str, one_nilp, one_ptr, one_sl, one_hsl, one_map, one_fn, List.length_cons, List.length_nil, List.set_cons_zero, List.set_cons_succ, Nat.reduceLT, Nat.reduceAdd, qG_un, qResN_val, qCallVN_fn, l5, ms3', l6, h37, l7, rows9, ap5', st5', l8, l9, l10, hw, ln, rows26, hc6, qRes_pan, rp_pan]
          exact ⟨trivial, trivial⟩)
        exact ⟨_, e1, g5.stop kp⟩
      | some q =>
        rw [hq] at h22
        simp only [] at h22
        obtain ⟨H6, row, hc6, ev, s6⟩ := h22
        simp only [Option.map_some]
        have g6 := g5.move s6
        have i6 := g6.fn
        have hrl := EVs.len h.hev
        obtain ⟨ja, Ha, Hz, ap, ia, hne, ixx, st, g7⟩ := g6.more ev (by rw [hrl]; omega)
        have l11 := fun (k' : AV → RP) => ldR g6.hvc 3 lv rfl k'
        have ap' := fun (k' : AV → AH → RP) => ap k'
        have ix' := fun (k' : AV → RP) => ixx k'
        have st' := fun (k' : AV → AH → RP) => st k'
        obtain ⟨v, H', e1, rfl, rfl⟩ := jval (Q := fun v H' => v = .tup [] ∧ H' = Hz) (al := [.ptr rb 0, .ptr sc 0, .ptr vc 0, .ptr db 0]) (H := H) e35 xf35 rfl rfl rfl (by
          simp -implicitDefEqProofs only [c35, r35_0, opn_z, opn_s, sel_z, sel_s, qCd_eq, qIf_true, qIf_false, qFn_eq, qBl_eq, qO_some, qRes_val, qHp_some, qPick_true, qPick_false, qG_tt, qG_ff, qG_tf, qG_ft, cellsK_some, qLd_vptr, qLdA_vptr, qFa_ptr, qFa_vptr, qNc_ptr, qNc_vptr, qNc_fn, qNot_bool, qExt_tup, qCallV_fn, qLss_int, qLeq_int, qGtr_int, qGeq_int, qEql_int, qNeq_int, qAdd_int, qSub_int, qMul_int, qConvI_int, qLenL_sl, qLenL_hsl, qLenS_str, foldO, min2_int, max2_int, qSame_refl, Nat.zero_add, List.getElem?_cons_zero, List.getElem?_cons_succ, List.nil_append, List.cons_append, List.append_nil, one_bool, one_int, one_str, one_nilp, one_ptr, one_sl, one_hsl, one_map, one_fn, List.length_cons, List.length_nil, List.set_cons_zero, List.set_cons_succ, Nat.reduceLT, Nat.reduceAdd, qG_un, qResN_val, qCallVN_fn, l1, h36]
          refine tw ?_
          simp -implicitDefEqProofs only [r35_2, r35_3, r35_4, r35_5, opn_z, opn_s, sel_z, sel_s, qCd_eq, qIf_true, qIf_false, qFn_eq, qBl_eq, qO_some, qRes_val, qHp_some, qPick_true, qPick_false, qG_tt, qG_ff, qG_tf, qG_ft, cellsK_some, qLd_vptr, qLdA_vptr, qFa_ptr, qFa_vptr, qNc_ptr, qNc_vptr, qNc_fn, qNot_bool, qExt_tup, qCallV_fn, qLss_int, qLeq_int, qGtr_int, qGeq_int, qEql_int, qNeq_int, qAdd_int, qSub_int, qMul_int, qConvI_int, qLenL_sl, qLenL_hsl, qLenS_str, foldO, min2_int, max2_int, qSame_refl, Nat.zero_add, List.getElem?_cons_zero, List.getElem?_cons_succ, List.nil_append, List.cons_append, List.append_nil, one_bool, one_int, one_str, one_nilp, one_ptr, one_sl, one_hsl, one_map, one_fn, List.length_cons, List.length_nil, List.set_cons_zero, List.set_cons_succ, Nat.reduceLT, Nat.reduceAdd, qG_un, qResN_val, qCallVN_fn, l5, ms3', l6, h37, l7, rows9, ap5', st5', l8, l9, l10, l11, hw, ln, rows26, hc6, ap', ix', qTwin_ptr _ _ _ _ _ hne, st']
          exact ⟨trivial, trivial⟩)
        have hdd : insB (dd j.ns) p.1 = dd (j.ns ++ [p.1]) := (dd_snoc j.ns p.1).symm
        rw [hdd] at g7
        exact ⟨_, _, _, _, e1, g7⟩
end T
set_option linter.unusedVariables false
set_option linter.unusedSimpArgs false
set_option maxRecDepth 10000
namespace T
open Go Go.Aes Go.Proofs

theorem pt_ok {n : Nat} (hv : ∀ m, m < n → VOk m) (o : Bool) : JPt n o := by
  cases n with
  | zero => intro deep Hb H r rb db vc sc mp k j nv lv rows h hn hb; omega
  | succ n => cases o with
    | false => exact pt34 (hv n (by omega))
    | true => exact pt35 (hv n (by omega))
theorem ptF_len {n : Nat} {o : Bool} {deep : Nat} {j j' : JS} (h : ptF n o deep j = some j') : j'.vs.length = j.vs.length + 1 ∧ j'.ns.length ≤ j.ns.length + 1 := by
  cases n with
  | zero => simp [ptF] at h
  | succ n =>
    cases o with
    | false =>
      unfold ptF at h
      obtain ⟨q, hq, rfl⟩ := Option.map_eq_some_iff.1 h
      simp
    | true =>
      unfold ptF at h
      obtain ⟨p, hp', h⟩ := Option.bind_eq_some_iff.1 h
      split at h
      · obtain ⟨q, hq, rfl⟩ := Option.map_eq_some_iff.1 h
        simp
      · cases h

def JLs (n : Nat) (o : Bool) : Prop := ∀ (deep : Nat) (Hb H : AH) (r rb db vc sc mp : Nat) (k : Int) (j : JS) (nv lv : AV) (rows : List (List AV)), LI o Hb H r rb db vc sc mp deep k j (dd j.ns) nv lv rows →
  4 * j.s.length + 6 ≤ n → JBd deep j →
  (∃ j' H' nv' lv' rows', lstF n o deep j = some j' ∧ EJ 33 [.ptr r 0, .str (endS o), .fn (.func (ptN o)) [] (ptA o rb db vc sc)] H = some (.val (.tup []) H') ∧ LI o Hb H' r rb db vc sc mp deep k j' (dd j'.ns) nv' lv' rows') ∨
  ∃ H', lstF n o deep j = none ∧ EJ 33 [.ptr r 0, .str (endS o), .fn (.func (ptN o)) [] (ptA o rb db vc sc)] H = some (.panic Wr H') ∧ Kp Hb H' (· = r)

theorem callV_fnR {C : CallF} {R : Type} [Mon R] (g : Nat) (caps : List AV) (H : AH) (k : AV → AH → R) : qCallV C (.fn (.func g) [] caps) [] H k = qRes (C g caps H) k := by
  rw [qCallV_fn]; simp

theorem ls33 {n : Nat} (hv : ∀ m, m < n → VOk m) (o : Bool) : JLs n o := by
  intro deep Hb H r rb db vc sc mp k j nv lv rows h hn hb
  have i0 := h.fn
  obtain ⟨n, rfl⟩ : ∃ m, n = m + 1 := ⟨n - 1, by omega⟩
  have hpt : ∀ m, m ≤ n → JPt m o := fun m hm => pt_ok (fun m' h' => hv m' (by omega)) o
  generalize hT : lstF (n + 1) o deep j = T
  unfold lstF at hT
  have key := pz_form (X := X) (D := DJ) (O := EP3) (S := PJ) (Z := ZJ) e33 xf33 (al := [.ptr r 0, .str (endS o), .fn (.func (ptN o)) [] (ptA o rb db vc sc)]) (H := H) rfl rfl
    (Q := fun v H' => ∃ j' nv' lv' rows', T = some j' ∧ v = .tup [] ∧ LI o Hb H' r rb db vc sc mp deep k j' (dd j'.ns) nv' lv' rows')
    (PP := fun v H' => T = none ∧ v = Wr ∧ Kp Hb H' (· = r)) ?_ rfl
  · rcases key with ⟨v, H', h1, j', nv', lv', rows', h2, rfl, h3⟩ | ⟨v, H', h1, h2, rfl, h3⟩
    · exact .inl ⟨j', H', nv', lv', rows', h2, h1, h3⟩
    · exact .inr ⟨H', h2, h1, h3⟩
  obtain ⟨H1, h32, s1⟩ := j32 h.sr.at_ (endS o)
  have g1 := h.move s1
  have i1 := g1.fn
  have hle := hasS_le j.s (endS o)
  cases hc : hasB j.s (endS o) with
  | true =>
    rw [hc] at h32
    rw [if_pos hc] at hT
    simp -implicitDefEqProofs only [c33, r33_0, opn_z, opn_s, sel_z, sel_s, qCd_eq, qIf_true, qIf_false, qFn_eq, qBl_eq, qO_some, qRes_val, qHp_some, qPick_true, qPick_false, qG_tt, qG_ff, qG_tf, qG_ft, cellsK_some, qLd_vptr, qLdA_vptr, qFa_ptr, qFa_vptr, qNc_ptr, qNc_vptr, qNc_fn, qNot_bool, qExt_tup, qCallV_fn, qLss_int, qLeq_int, qGtr_int, qGeq_int, qEql_int, qNeq_int, qAdd_int, qSub_int, qMul_int, qConvI_int, qLenL_sl, qLenL_hsl, qLenS_str, foldO, min2_int, max2_int, qSame_refl, Nat.zero_add, List.getElem?_cons_zero, List.getElem?_cons_succ, List.nil_append, List.cons_append, List.append_nil, one_bool, one_int, one_str, one_nilp, one_ptr, one_sl, one_hsl, one_map, one_fn, List.length_cons, List.length_nil, List.set_cons_zero, List.set_cons_succ, Nat.reduceLT, Nat.reduceAdd, qG_un, qResN_val, qCallVN_fn, h32]
    exact ⟨_, _, _, _, hT.symm, trivial, g1⟩
  | false =>
    rw [hc] at h32
    rw [if_neg (by simp [hc])] at hT
    obtain ⟨b1, b2, b3⟩ := hb
    have hp := hpt n (Nat.le_refl _) deep Hb H1 r rb db vc sc mp k _ nv lv rows g1 (by simp only []; omega) ⟨by simp only []; omega, by simp only []; omega, by simp only []; omega⟩
    cases hq : ptF n o deep { j with s := hasS j.s (endS o) } with
    | none =>
      have hq' : ptF n o deep { s := hasS j.s (endS o), d := j.d, t := j.t, ns := j.ns, vs := j.vs } = none := hq
      rw [hq'] at hp hT
      simp only [Option.bind_none] at hp hT
      obtain ⟨H2, hc2, kp⟩ := hp
      simp -implicitDefEqProofs only [c33, r33_0, r33_1, opn_z, opn_s, sel_z, sel_s, qCd_eq, qIf_true, qIf_false, qFn_eq, qBl_eq, qO_some, qRes_val, qHp_some, qPick_true, qPick_false, qG_tt, qG_ff, qG_tf, qG_ft, cellsK_some, qLd_vptr, qLdA_vptr, qFa_ptr, qFa_vptr, qNc_ptr, qNc_vptr, qNc_fn, qNot_bool, qExt_tup, qCallV_fn, qLss_int, qLeq_int, qGtr_int, qGeq_int, qEql_int, qNeq_int, qAdd_int, qSub_int, qMul_int, qConvI_int, qLenL_sl, qLenL_hsl, qLenS_str, foldO, min2_int, max2_int, qSame_refl, Nat.zero_add, List.getElem?_cons_zero, List.getElem?_cons_succ, List.nil_append, List.cons_append, List.append_nil, one_bool, one_int, one_str, one_nilp, one_ptr, one_sl, one_hsl, one_map, one_fn, List.length_cons, List.length_nil, List.set_cons_zero, List.set_cons_succ, Nat.reduceLT, Nat.reduceAdd, qG_un, qResN_val, qCallVN_fn, callV_fnR, h32, hc2, qRes_pan, rp_pan]
      exact ⟨hT.symm, trivial, kp⟩
    | some j1 =>
      have hq' : ptF n o deep { s := hasS j.s (endS o), d := j.d, t := j.t, ns := j.ns, vs := j.vs } = some j1 := hq
      rw [hq'] at hp hT
      simp only [Option.bind_some] at hp hT
      obtain ⟨H2, nv2, lv2, rows2, hc2, g2⟩ := hp
      have hl := (lenF n).2.2.2 _ _ _ _ hq
      have hl2 := ptF_len hq
      simp only [] at hl hl2
      simp -implicitDefEqProofs only [c33, r33_0, r33_1, opn_z, opn_s, sel_z, sel_s, qCd_eq, qIf_true, qIf_false, qFn_eq, qBl_eq, qO_some, qRes_val, qHp_some, qPick_true, qPick_false, qG_tt, qG_ff, qG_tf, qG_ft, cellsK_some, qLd_vptr, qLdA_vptr, qFa_ptr, qFa_vptr, qNc_ptr, qNc_vptr, qNc_fn, qNot_bool, qExt_tup, qCallV_fn, qLss_int, qLeq_int, qGtr_int, qGeq_int, qEql_int, qNeq_int, qAdd_int, qSub_int, qMul_int, qConvI_int, qLenL_sl, qLenL_hsl, qLenS_str, foldO, min2_int, max2_int, qSame_refl, Nat.zero_add, List.getElem?_cons_zero, List.getElem?_cons_succ, List.nil_append, List.cons_append, List.append_nil, one_bool, one_int, one_str, one_nilp, one_ptr, one_sl, one_hsl, one_map, one_fn, List.length_cons, List.length_nil, List.set_cons_zero, List.set_cons_succ, Nat.reduceLT, Nat.reduceAdd, qG_un, qResN_val, qCallVN_fn, callV_fnR, h32, hc2]
      refine loop_invP (fun m fr H' => ∃ (j : JS) (nv lv : AV) (rows : List (List AV)) (x8 x12 : AV), m ≤ n ∧ 4 * j.s.length + 4 ≤ m ∧ JBd deep j ∧ itF m o deep j = T ∧ LI o Hb H' r rb db vc sc mp deep k j (dd j.ns) nv lv rows ∧
        fr = [.ptr r 0, .str (endS o), .fn (.func (ptN o)) [] (ptA o rb db vc sc), x8, x12]) ?_ (m := n) ⟨j1, nv2, lv2, rows2, _, _, Nat.le_refl _, by omega, ⟨by omega, by omega, by omega⟩, hT, g2, rfl⟩
      clear hT hq hq' hc2 g2 hl hl2 h32 g1 s1 h b1 b2 b3
      rintro m fr H' kk ⟨j, nv, lv, rows, x8, x12, hm1, hm2, ⟨b1, b2, b3⟩, hT, h, rfl⟩ hkk
      obtain ⟨m, rfl⟩ : ∃ m', m = m' + 1 := ⟨m - 1, by omega⟩
      unfold itF at hT
      have i0 := h.fn
      obtain ⟨H1, h32, s1⟩ := j32 h.sr.at_ [44]
      have g1 := h.move s1
      have i1 := g1.fn
      have hle := hasS_le j.s [44]
      cases hc : hasB j.s [44] with
      | true =>
        rw [hc] at h32
        rw [if_pos hc] at hT
        have hlt := hasS_lt hc
        have hp := hpt m (by omega) deep Hb H1 r rb db vc sc mp k _ nv lv rows g1 (by simp only []; omega) ⟨by simp only []; omega, by simp only []; omega, by simp only []; omega⟩
        cases hq : ptF m o deep { j with s := hasS j.s [44] } with
        | none =>
          have hq' : ptF m o deep { s := hasS j.s [44], d := j.d, t := j.t, ns := j.ns, vs := j.vs } = none := hq
          rw [hq'] at hp hT
          simp only [Option.bind_none] at hp hT
          obtain ⟨H2, hc2, kp⟩ := hp
          simp -implicitDefEqProofs only [l33_4, r33_2, r33_3, opn_z, opn_s, sel_z, sel_s, qCd_eq, qIf_true, qIf_false, qFn_eq, qBl_eq, qO_some, qRes_val, qHp_some, qPick_true, qPick_false, qG_tt, qG_ff, qG_tf, qG_ft, cellsK_some, qLd_vptr, qLdA_vptr, qFa_ptr, qFa_vptr, qNc_ptr, qNc_vptr, qNc_fn, qNot_bool, qExt_tup, qCallV_fn, qLss_int, qLeq_int, qGtr_int, qGeq_int, qEql_int, qNeq_int, qAdd_int, qSub_int, qMul_int, qConvI_int, qLenL_sl, qLenL_hsl, qLenS_str, foldO, min2_int, max2_int, qSame_refl, Nat.zero_add, List.getElem?_cons_zero, List.getElem?_cons_succ, List.nil_append, List.cons_append, List.append_nil, one_bool, one_int, one_str, one_nilp, one_ptr, one_sl, one_hsl, one_map, one_fn, List.length_cons, List.length_nil, List.set_cons_zero, List.set_cons_succ, Nat.reduceLT, Nat.reduceAdd, qG_un, qResN_val, qCallVN_fn, callV_fnR, h32, hc2, qRes_pan, rp_pan]
          exact ⟨hT.symm, trivial, kp⟩
        | some j1 =>
          have hq' : ptF m o deep { s := hasS j.s [44], d := j.d, t := j.t, ns := j.ns, vs := j.vs } = some j1 := hq
          rw [hq'] at hp hT
          simp only [Option.bind_some] at hp hT
          obtain ⟨H2, nv2, lv2, rows2, hc2, g2⟩ := hp
          have hl := (lenF m).2.2.2 _ _ _ _ hq
          have hl2 := ptF_len hq
          simp only [] at hl hl2
          simp -implicitDefEqProofs only [l33_4, r33_2, r33_3, opn_z, opn_s, sel_z, sel_s, qCd_eq, qIf_true, qIf_false, qFn_eq, qBl_eq, qO_some, qRes_val, qHp_some, qPick_true, qPick_false, qG_tt, qG_ff, qG_tf, qG_ft, cellsK_some, qLd_vptr, qLdA_vptr, qFa_ptr, qFa_vptr, qNc_ptr, qNc_vptr, qNc_fn, qNot_bool, qExt_tup, qCallV_fn, qLss_int, qLeq_int, qGtr_int, qGeq_int, qEql_int, qNeq_int, qAdd_int, qSub_int, qMul_int, qConvI_int, qLenL_sl, qLenL_hsl, qLenS_str, foldO, min2_int, max2_int, qSame_refl, Nat.zero_add, List.getElem?_cons_zero, List.getElem?_cons_succ, List.nil_append, List.cons_append, List.append_nil, one_bool, one_int, one_str, one_nilp, one_ptr, one_sl, one_hsl, one_map, one_fn, List.length_cons, List.length_nil, List.set_cons_zero, List.set_cons_succ, Nat.reduceLT, Nat.reduceAdd, qG_un, qResN_val, qCallVN_fn, callV_fnR, h32, hc2]
          exact hkk m _ _ (by omega) ⟨j1, nv2, lv2, rows2, _, _, by omega, by omega, ⟨by omega, by omega, by omega⟩, hT, g2, rfl⟩
      | false =>
        rw [hc] at h32
        rw [if_neg (by simp [hc])] at hT
        obtain ⟨H2, h37, s2⟩ := j37 g1.sr.at_ (endS o)
        simp only [] at h37 s2
        cases hc2 : hasB (hasS j.s [44]) (endS o) with
        | true =>
          rw [hc2] at h37
          rw [if_pos hc2] at hT
          simp only [if_true] at h37
          simp -implicitDefEqProofs only [l33_4, r33_2, r33_4, opn_z, opn_s, sel_z, sel_s, qCd_eq, qIf_true, qIf_false, qFn_eq, qBl_eq, qO_some, qRes_val, qHp_some, qPick_true, qPick_false, qG_tt, qG_ff, qG_tf, qG_ft, cellsK_some, qLd_vptr, qLdA_vptr, qFa_ptr, qFa_vptr, qNc_ptr, qNc_vptr, qNc_fn, qNot_bool, qExt_tup, qCallV_fn, qLss_int, qLeq_int, qGtr_int, qGeq_int, qEql_int, qNeq_int, qAdd_int, qSub_int, qMul_int, qConvI_int, qLenL_sl, qLenL_hsl, qLenS_str, foldO, min2_int, max2_int, qSame_refl, Nat.zero_add, List.getElem?_cons_zero, List.getElem?_cons_succ, List.nil_append, List.cons_append, List.append_nil, one_bool, one_int, one_str, one_nilp, one_ptr, one_sl, one_hsl, one_map, one_fn, List.length_cons, List.length_nil, List.set_cons_zero, List.set_cons_succ, Nat.reduceLT, Nat.reduceAdd, qG_un, qResN_val, qCallVN_fn, h32, h37]
          exact ⟨_, _, _, _, hT.symm, trivial, g1.move s2⟩
        | false =>
          rw [hc2] at h37
          rw [if_neg (by simp [hc2])] at hT
          simp only [Bool.false_eq_true, if_false] at h37
          simp -implicitDefEqProofs only [l33_4, r33_2, r33_4, opn_z, opn_s, sel_z, sel_s, qCd_eq, qIf_true, qIf_false, qFn_eq, qBl_eq, qO_some, qRes_val, qHp_some, qPick_true, qPick_false, qG_tt, qG_ff, qG_tf, qG_ft, cellsK_some, qLd_vptr, qLdA_vptr, qFa_ptr, qFa_vptr, qNc_ptr, qNc_vptr, qNc_fn, qNot_bool, qExt_tup, qCallV_fn, qLss_int, qLeq_int, qGtr_int, qGeq_int, qEql_int, qNeq_int, qAdd_int, qSub_int, qMul_int, qConvI_int, qLenL_sl, qLenL_hsl, qLenS_str, foldO, min2_int, max2_int, qSame_refl, Nat.zero_add, List.getElem?_cons_zero, List.getElem?_cons_succ, List.nil_append, List.cons_append, List.append_nil, one_bool, one_int, one_str, one_nilp, one_ptr, one_sl, one_hsl, one_map, one_fn, List.length_cons, List.length_nil, List.set_cons_zero, List.set_cons_succ, Nat.reduceLT, Nat.reduceAdd, qG_un, qResN_val, qCallVN_fn, h32, h37, qRes_pan, rp_pan]
          exact ⟨hT.symm, trivial, g1.stop s2.kp⟩
end T
