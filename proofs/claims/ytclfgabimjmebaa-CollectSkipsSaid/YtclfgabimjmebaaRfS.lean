import Derived.Test.YtclfgabimjmebaaCevRf
import Derived.Test.YtclfgabimjmebaaS13
import Derived.Test.YtclfgabimjmebaaTw
set_option linter.all false
set_option linter.unusedVariables false
set_option linter.unusedSimpArgs false
set_option maxRecDepth 100000
namespace T
open Go Go.Aes Go.Proofs

/-- the wide schema -/
noncomputable def schV : AV := .agg [.str [81, 117, 101, 114, 121], .str [77, 117, 116, 97, 116, 105, 111, 110], .sl [[.int .i64 2, .str [81, 117, 101, 114, 121], .sl [] .nil, .sl [[.str [97], .sl [] .nil, .str [73, 110, 116], .str [], .int .i64 1], [.str [98], .sl [[.str [120], .str [73, 110, 116], .str [], .int .i64 3, .str [49], .sl [] .nil, .sl [] .nil], [.str [121], .str [83, 116, 114, 105, 110, 103], .str [33, 93], .int .i64 0, .str [], .sl [] .nil, .sl [] .nil]] .dead, .str [83, 116, 114, 105, 110, 103], .str [], .int .i64 1], [.str [99], .sl [] .nil, .str [78, 111, 100, 101], .str [], .int .i64 1], [.str [100], .sl [] .nil, .str [78, 111, 100, 101], .str [33, 93, 33], .int .i64 1], [.str [101], .sl [] .nil, .str [75, 105, 110, 100], .str [], .int .i64 1], [.str [102], .sl [] .nil, .str [84, 104, 105, 110, 103], .str [], .int .i64 1], [.str [103], .sl [] .nil, .str [84, 104, 105, 110, 103], .str [93], .int .i64 1], [.str [104], .sl [[.str [105, 110], .str [73, 110], .str [], .int .i64 0, .str [], .sl [] .nil, .sl [] .nil]] .dead, .str [70, 108, 111, 97, 116], .str [33], .int .i64 5], [.str [105], .sl [] .nil, .str [73, 68], .str [], .int .i64 1], [.str [107], .sl [[.str [97, 110, 121], .str [65, 110, 121], .str [], .int .i64 0, .str [], .sl [] .nil, .sl [] .nil]] .dead, .str [65, 110, 121], .str [], .int .i64 1], [.str [115, 101, 108, 102], .sl [] .nil, .str [81, 117, 101, 114, 121], .str [33], .int .i64 1]] .dead, .sl [] .nil], [.int .i64 3, .str [78, 111, 100, 101], .sl [] .nil, .sl [[.str [105, 100], .sl [] .nil, .str [73, 68], .str [33], .int .i64 1], [.str [110, 97, 109, 101], .sl [] .nil, .str [83, 116, 114, 105, 110, 103], .str [], .int .i64 1], [.str [110, 101, 120, 116], .sl [] .nil, .str [78, 111, 100, 101], .str [], .int .i64 1]] .dead, .sl [] .nil], [.int .i64 2, .str [65], .sl [[.str [78, 111, 100, 101]]] .dead, .sl [[.str [105, 100], .sl [] .nil, .str [73, 68], .str [33], .int .i64 1], [.str [110, 97, 109, 101], .sl [] .nil, .str [83, 116, 114, 105, 110, 103], .str [], .int .i64 1], [.str [110, 101, 120, 116], .sl [] .nil, .str [78, 111, 100, 101], .str [], .int .i64 1], [.str [97], .sl [] .nil, .str [73, 110, 116], .str [], .int .i64 3], [.str [107, 105, 100, 115], .sl [] .nil, .str [65], .str [93], .int .i64 1]] .dead, .sl [] .nil], [.int .i64 2, .str [66], .sl [[.str [78, 111, 100, 101]]] .dead, .sl [[.str [105, 100], .sl [] .nil, .str [73, 68], .str [33], .int .i64 1], [.str [110, 97, 109, 101], .sl [] .nil, .str [83, 116, 114, 105, 110, 103], .str [], .int .i64 1], [.str [110, 101, 120, 116], .sl [] .nil, .str [66], .str [], .int .i64 1], [.str [98], .sl [[.str [122], .str [66, 111, 111, 108, 101, 97, 110], .str [33], .int .i64 0, .str [], .sl [] .nil, .sl [] .nil]] .dead, .str [66, 111, 111, 108, 101, 97, 110], .str [], .int .i64 1]] .dead, .sl [] .nil], [.int .i64 4, .str [84, 104, 105, 110, 103], .sl [[.str [65]], [.str [66]]] .dead, .sl [] .nil, .sl [] .nil], [.int .i64 5, .str [75, 105, 110, 100], .sl [[.str [88]], [.str [89]], [.str [90]]] .dead, .sl [] .nil, .sl [] .nil], [.int .i64 6, .str [73, 110], .sl [] .nil, .sl [] .nil, .sl [[.str [112], .str [73, 110, 116], .str [33], .int .i64 0, .str [], .sl [] .nil, .sl [] .nil], [.str [113], .str [73, 110, 116], .str [93], .int .i64 0, .str [], .sl [] .nil, .sl [] .nil], [.str [114], .str [73, 110], .str [], .int .i64 0, .str [], .sl [] .nil, .sl [] .nil], [.str [115], .str [75, 105, 110, 100], .str [], .int .i64 6, .str [88], .sl [] .nil, .sl [] .nil]] .dead], [.int .i64 1, .str [65, 110, 121], .sl [] .nil, .sl [] .nil, .sl [] .nil], [.int .i64 2, .str [77, 117, 116, 97, 116, 105, 111, 110], .sl [] .nil, .sl [[.str [115, 101, 116], .sl [[.str [118], .str [73, 110, 116], .str [33], .int .i64 0, .str [], .sl [] .nil, .sl [] .nil]] .dead, .str [65], .str [], .int .i64 1], [.str [97, 100, 100], .sl [[.str [118], .str [73, 110, 116], .str [33, 93], .int .i64 0, .str [], .sl [] .nil, .sl [] .nil]] .dead, .str [73, 110, 116], .str [], .int .i64 1], [.str [98, 117, 109, 112], .sl [] .nil, .str [66], .str [], .int .i64 1]] .dead, .sl [] .nil]] .dead]

noncomputable def put21 : CallF := only X (fun _ _ _ => none) 50 21 Try.f21
theorem put21_ok (B : Nat) (W : World) : CallOk Try.prog B W put21 := only_ok prOk.ok .none 50 21 Try.func21 (by kernel_rfl)
noncomputable abbrev OT (l : List Ent) : CallF := orO (fun g => g.beq 21) put21 (tabO l)
noncomputable abbrev CE (l : List Ent) (n : Nat) : CallF := cev (OT l) (runT cT) n
def NoT (B : Nat) (W : World) : Prop := True
theorem noT : TbOk NoT := ⟨fun B W w _ _ _ => trivial⟩
theorem ot_ok (l : List Ent) (hl : ∀ e ∈ l, PEnt Try.prog e.g e.as e.v) (B : Nat) (W : World) : CallOk Try.prog B W (OT l) := orO_ok (put21_ok B W) (tabO_ok l hl B W)
theorem ce_ok (l : List Ent) (hl : ∀ e ∈ l, PEnt Try.prog e.g e.as e.v) (n : Nat) : ∀ B W, CallOk Try.prog B W (CE l n) := fun B W => cev_ok prOk (ot_ok l hl B W) cTabs n
theorem comp2 {l : List Ent} (hl : ∀ e ∈ l, PEnt Try.prog e.g e.as e.v) {n g : Nat} {al : List AV} {v : AV}
    (ha : AV.frees (AV.kills al) = true) (hv : v.free = true) (h : givesB (CE l n g (AV.kills al) HT) v = true) : PEnt Try.prog g al v := by
  cases hr : CE l n g (AV.kills al) HT with
  | none => rw [hr] at h; cases h
  | some r =>
    cases r with
    | panic a b => rw [hr] at h; cases h
    | val w H' =>
      rw [hr] at h
      have e := beqV_sound _ _ h
      exact PEnt.mk (ce_ok l hl n) HT_get ha hr e hv

theorem sch_ent : PEnt Try.prog 5 [.int .i64 1] schV := comp2 (n := 100) (l := []) (fun e h => nomatch h) (by kernel_rfl) (by kernel_rfl) (by kernel_rfl)
end T
