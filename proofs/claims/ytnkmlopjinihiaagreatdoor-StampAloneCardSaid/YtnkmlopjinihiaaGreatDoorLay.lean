/- Contracts of layout's methods on numbers: made, there, Kind, slot, Mark, Slot, Gate, marked. -/
import Derived.Test.YtnkmlopjinihiaaGreatDoorProg
import Derived.Test.YtnkmlopjinihiaaGreatDoorBase
import Derived.Test.YtnkmlopjinihiaaGreatDoorPlain
namespace Go.Proofs.YtnkmlopjinihiaaGreatDoor
open Go.RowKit
set_option linter.unusedVariables false
set_option maxHeartbeats 400000

theorem lmade (l : Lay) (w : World) : Calls Tryz.prog 153 #[.agg l.vs.toArray] w fun e w' => e = .returned (.bool (decide (0 < l.cells))) ∧ Below w.heap.size w w' := by
  unfold Lay.vs
  go_enter Tryz.func153, Tryz.ntmps153
  go_wp2
  go_ret
  exact ⟨rfl, (Below.refl _ _).alloc (Nat.le_refl _) _⟩
theorem lthere (l : Lay) (k : Int) (w : World) : Calls Tryz.prog 107 #[.agg l.vs.toArray, .int .i64 k] w fun e w' => e = .returned (.bool (decide (0 < l.cells ∧ 0 ≤ k ∧ k < l.cells))) ∧ Below w.heap.size w w' := by
  unfold Lay.vs
  go_enter Tryz.func107, Tryz.ntmps107
  go_wp2_with (go_at_call 153; refine (lmade l _).mono ?_; rintro e w1 ⟨rfl, hb1⟩; obtain ⟨hc1, hf1⟩ := bcell hb1)
  all_goals go_ret
  all_goals refine ⟨ret_bool ?_, below_new hb1⟩
  all_goals clear hc1 hf1 hb1
  all_goals grind
theorem lkind (l : Lay) (k : Int) (w : World) : Calls Tryz.prog 122 #[.agg l.vs.toArray, .int .i64 k] w fun e w' => e = .returned (.int .i64 (l.kind k)) ∧ Below w.heap.size w w' := by
  unfold Lay.vs
  go_enter Tryz.func122, Tryz.ntmps122
  go_wp2_with (go_at_call 107; refine (lthere l k _).mono ?_; rintro e w1 ⟨rfl, hb1⟩; obtain ⟨hc1, hf1⟩ := bcell hb1)
  all_goals go_ret
  all_goals refine ⟨ret_int ?_, below_new hb1⟩
  all_goals clear hc1 hf1 hb1
  all_goals grind [Lay.kind]
theorem lslot (l : Lay) (hl : l.Bd) (f s : Int) (hf : -1 ≤ f ∧ f ≤ 200) (w : World) : Calls Tryz.prog 162 #[.agg l.vs.toArray, .int .i64 f, .int .i64 s] w fun e w' => e = .returned (.int .i64 (l.slotAt f s)) ∧ Below w.heap.size w w' := by
  have hl1 := hl.cap
  unfold Lay.vs
  go_enter Tryz.func162, Tryz.ntmps162
  go_wp2_with (go_at_call 153; refine (lmade l _).mono ?_; rintro e w1 ⟨rfl, hb1⟩; obtain ⟨hc1, hf1⟩ := bcell hb1)
  all_goals go_ret
  all_goals refine ⟨ret_int ?_, below_new hb1⟩
  all_goals clear hc1 hf1 hb1
  all_goals grind [Lay.slotAt]
theorem lmark (l : Lay) (hl : l.Bd) (s : Int) (w : World) : Calls Tryz.prog 119 #[.agg l.vs.toArray, .int .i64 s] w fun e w' => e = .returned (.int .i64 (l.mark s)) ∧ Below w.heap.size w w' := by
  have hl1 := hl.marks
  unfold Lay.vs
  go_enter Tryz.func119, Tryz.ntmps119
  go_wp2_with (go_at_call 162; refine (lslot l hl _ _ (by omega) _).mono ?_; rintro e w1 ⟨rfl, hb1⟩; obtain ⟨hc1, hf1⟩ := bcell hb1)
  go_ret
  exact ⟨rfl, below_new hb1⟩
theorem lgate (l : Lay) (hl : l.Bd) (s : Int) (w : World) : Calls Tryz.prog 157 #[.agg l.vs.toArray, .int .i64 s] w fun e w' => e = .returned (.int .i64 (l.gate s)) ∧ Below w.heap.size w w' := by
  have hl1 := hl.un
  unfold Lay.vs
  go_enter Tryz.func157, Tryz.ntmps157
  go_wp2_with (go_at_call 153; refine (lmade l _).mono ?_; rintro e w1 ⟨rfl, hb1⟩; obtain ⟨hc1, hf1⟩ := bcell hb1)
  all_goals go_ret
  all_goals refine ⟨ret_int ?_, below_new hb1⟩
  all_goals clear hc1 hf1 hb1
  all_goals grind [Lay.gate]
theorem lmarked (l : Lay) (hl : l.Bd) (k : Int) (hk : 0 ≤ k ∧ k ≤ 200) (w : World) : Calls Tryz.prog 108 #[.agg l.vs.toArray, .int .i64 k] w fun e w' => e = .returned (.tuple #[.int .i64 (k - l.marks), .bool (l.marked k)]) ∧ Below w.heap.size w w' := by
  have hl1 := hl.marks
  unfold Lay.vs
  by_cases h1 : 0 ≤ l.marks
  · by_cases h2 : l.marks ≤ k
    · go_enter Tryz.func108, Tryz.ntmps108
      go_wp2_with fail
      go_quiet (fail)
      go_wp2_with fail
      go_ret2
      exact ⟨ret_pair rfl (by grind [Lay.marked]), below_drewN ((Below.refl _ _).alloc (Nat.le_refl _) _) _⟩
    · have hd2 : decide (l.marks ≤ k) = false := by simpa using h2
      have hd3 : k < l.marks := by omega
      clear h2
      go_enter Tryz.func108, Tryz.ntmps108
      go_wp2_with fail
      go_quiet (fail)
      go_wp2_with fail
      go_ret2
      exact ⟨ret_pair rfl (by grind [Lay.marked]), below_drewN ((Below.refl _ _).alloc (Nat.le_refl _) _) _⟩
  · have hd2 : decide (0 ≤ l.marks) = false := by simpa using h1
    have hd3 : l.marks < 0 := by omega
    clear h1
    go_enter Tryz.func108, Tryz.ntmps108
    go_wp2_with fail
    go_quiet (fail)
    go_wp2_with fail
    go_ret2
    exact ⟨ret_pair rfl (by grind [Lay.marked]), below_drewN ((Below.refl _ _).alloc (Nat.le_refl _) _) _⟩
end Go.Proofs.YtnkmlopjinihiaaGreatDoor
