import Derived.Test.YtgmifbbimcblcaaO14
set_option linter.all false
set_option linter.unusedVariables false
set_option linter.unusedSimpArgs false
namespace Go.Aes
open Go.RowKit

mutual
theorem beqV_sound : ∀ (a b : AV), beqV a b = true → a = b
  | .bool a, b, h => by cases b <;> simp [beqV] at h; rw [h]
  | .int k a, b, h => by cases b <;> simp [beqV, beqI] at h; rw [h.1, h.2]
  | .str a, b, h => by cases b <;> simp [beqV, eqL_spec] at h; rw [h]
  | .nilp, b, h => by cases b <;> simp [beqV] at h; rfl
  | .ptr i o, b, h => by cases b <;> simp [beqV] at h; rw [h.1, h.2]
  | .vptr r o, b, h => by
    cases b <;> simp [beqV] at h
    rw [beqVs_sound _ _ h.1, h.2]
  | .sl r t, b, h => by
    cases b <;> simp [beqV] at h
    rw [beqVss_sound _ _ h.1, h.2]
  | .hsl i o n c s g, b, h => by cases b <;> simp [beqV] at h; simp [h]
  | .map none, b, h => by
    cases b <;> (try (simp [beqV] at h; done))
    rename_i r
    cases r <;> simp [beqV] at h
    rfl
  | .map (some a), b, h => by
    cases b <;> (try (simp [beqV] at h; done))
    rename_i r
    cases r <;> simp [beqV] at h
    rw [h]
  | .it a, b, h => by cases b <;> simp [beqV] at h; rw [h]
  | .nilfn, b, h => by cases b <;> simp [beqV] at h; rfl
  | .fn f x y, b, h => by
    cases b <;> simp [beqV] at h
    rw [h.1.1, beqVs_sound _ _ h.1.2, beqVs_sound _ _ h.2]
  | .iface t v, b, h => by
    cases b <;> simp [beqV] at h
    rw [h.1, beqV_sound _ _ h.2]
  | .nilif, b, h => by cases b <;> simp [beqV] at h; rfl
  | .agg a, b, h => by
    cases b <;> simp [beqV] at h
    rw [beqVs_sound _ _ h]
  | .tup a, b, h => by
    cases b <;> simp [beqV] at h
    rw [beqVs_sound _ _ h]
theorem beqVs_sound : ∀ (a b : List AV), beqVs a b = true → a = b
  | [], b, h => by cases b <;> simp [beqVs] at h; rfl
  | x :: r, b, h => by
    cases b <;> simp [beqVs] at h
    rw [beqV_sound _ _ h.1, beqVs_sound _ _ h.2]
theorem beqVss_sound : ∀ (a b : List (List AV)), beqVss a b = true → a = b
  | [], b, h => by cases b <;> simp [beqVss] at h; rfl
  | x :: r, b, h => by
    cases b <;> simp [beqVss] at h
    rw [beqVs_sound _ _ h.1, beqVss_sound _ _ h.2]
end

/-! ### an operation looks at no other slots -/
theorem ev_congr {fr fr' : Fr} {x : Operand} (h : ∀ t, x = .tmp t → fr.get t = fr'.get t) : ev fr x = ev fr' x := by
  cases x <;> simp only [ev]
  rw [h _ rfl]
theorem evs_congr {fr fr' : Fr} : ∀ {l : List Operand}, (∀ x, x ∈ l → ev fr x = ev fr' x) → evs fr l = evs fr' l
  | [], _ => rfl
  | x :: r, h => by simp only [evs]; rw [h x (by simp), evs_congr (fun y hy => h y (by simp [hy]))]
theorem evps_congr {fr fr' : Fr} : ∀ {l : List (Nat × Operand)}, (∀ x, x ∈ l → ev fr x.2 = ev fr' x.2) → evps fr l = evps fr' l
  | [], _ => rfl
  | (i, x) :: r, h => by simp only [evps]; rw [h (i, x) (by simp), evps_congr (fun y hy => h y (by simp [hy]))]
theorem evo_congr {fr fr' : Fr} {x : Option Operand} (h : ∀ y, x = some y → ev fr y = ev fr' y) : evo fr x = evo fr' x := by
  cases x <;> simp only [evo]
  rw [h _ rfl]

/-- the slots that an operation looks at -/
def looks (all : List Oper) (o : Oper) : List Nat :=
  o.op.operands.toList.filterMap (fun | .tmp t => some t | _ => none) ++
  (match o.guard with
   | some (g, _) => match all[g]? with
     | some og => og.dst.toList
     | none => []
   | none => [])

theorem inst_congr {X : Cx} {f : Nat} {fr fr' : Fr} {o : Oper} (h : ∀ x, x ∈ o.op.operands.toList → ev fr x = ev fr' x) : inst X f fr o = inst X f fr' o := by
  obtain ⟨dst, op, ty, pos, after, guard⟩ := o
  cases op <;> (try simp only [inst]) <;> (try rfl)
  case move x => rw [h x (by simp [Op.operands])]
  case assign x => rw [h x (by simp [Op.operands])]
  case pick c x y => rw [h c (by simp [Op.operands]), h x (by simp [Op.operands]), h y (by simp [Op.operands])]
  case box t x => rw [h x (by simp [Op.operands])]
  case build t ps => rw [evps_congr (fun p hp => h p.2 (by simp [Op.operands]; exact ⟨p.1, by simpa using hp⟩))]
  case buildSlice t n ps => rw [evps_congr (fun p hp => h p.2 (by simp [Op.operands]; exact ⟨p.1, by simpa using hp⟩))]
  case load t x => rw [h x (by simp [Op.operands])]
  case store t x y => rw [h x (by simp [Op.operands]), h y (by simp [Op.operands])]
  case nilCheck x => rw [h x (by simp [Op.operands])]
  case binOp op t x y yt => rw [h x (by simp [Op.operands]), h y (by simp [Op.operands])]
  case unOp op t x => rw [h x (by simp [Op.operands])]
  case convert s d x => rw [h x (by simp [Op.operands])]
  case makeFunc g x y => rw [evs_congr (fun p hp => h p (by simp [Op.operands]; simp at hp; exact .inl hp)), evs_congr (l := y.toList) (fun p hp => h p (by simp [Op.operands]; simp at hp; exact .inr hp))]
  case makeMap t r => cases r <;> simp only [inst]
  case slice t x lo hi mx =>
    rw [h x (by simp [Op.operands]), evo_congr (x := lo) (fun y hy => h y (by simp [Op.operands, hy])), evo_congr (x := hi) (fun y hy => h y (by simp [Op.operands, hy])),
      evo_congr (x := mx) (fun y hy => h y (by simp [Op.operands, hy]))]
  case fieldAddr t x k => rw [h x (by simp [Op.operands])]
  case field t x k => rw [h x (by simp [Op.operands])]
  case indexAddr t x y => rw [h x (by simp [Op.operands]), h y (by simp [Op.operands])]
  case index t x y => rw [h x (by simp [Op.operands]), h y (by simp [Op.operands])]
  case lookup t x y c => rw [h x (by simp [Op.operands]), h y (by simp [Op.operands])]
  case mapUpdate t x y z => rw [h x (by simp [Op.operands]), h y (by simp [Op.operands]), h z (by simp [Op.operands])]
  case range t x => rw [h x (by simp [Op.operands])]
  case next it b => cases b <;> simp only [inst]; rw [h it (by simp [Op.operands])]
  case extract x k => rw [h x (by simp [Op.operands])]
  case makeSlice t n c => rw [h n (by simp [Op.operands]), h c (by simp [Op.operands])]
  case panic x => rw [h x (by simp [Op.operands])]
  case call c =>
    obtain ⟨callee, args, argTypes⟩ := c
    cases callee <;> simp only []
    case value g => rw [h g (by simp [Op.operands, Call.operands]), evs_congr (fun p hp => h p (by simp [Op.operands, Call.operands]; simp at hp; exact .inr hp))]
    case builtin b => rw [evs_congr (fun p hp => h p (by simp [Op.operands, Call.operands]; simpa using hp))]

theorem looks_inst {X : Cx} {f : Nat} {all : List Oper} {fr fr' : Fr} {o : Oper} (h : ∀ t, t ∈ looks all o → fr.get t = fr'.get t) : inst X f fr o = inst X f fr' o := by
  refine inst_congr fun x hx => ev_congr fun t ht => h t ?_
  subst ht
  exact List.mem_append_left _ (List.mem_filterMap.2 ⟨.tmp t, hx, rfl⟩)

theorem looks_wanted {all : List Oper} {fr fr' : Fr} {o : Oper} (h : ∀ t, t ∈ looks all o → fr.get t = fr'.get t) : wantedB fr all o = wantedB fr' all o := by
  unfold wantedB
  cases hg : o.guard with
  | none => rfl
  | some g =>
    obtain ⟨j, want⟩ := g
    simp only []
    cases hj : all[j]? with
    | none => rfl
    | some oj =>
      simp only []
      cases hd : oj.dst with
      | none => rfl
      | some d =>
        simp only []
        rw [h d (List.mem_append_right _ (by simp [hg, hj, hd]))]

end Go.Aes
