/- Contracts of layout's methods on numbers: made, there, Kind, slot, Mark, Slot, Gate, marked. -/
import Derived.Test.YtnkmlopjinihiaaDoorProg
import Derived.Test.YtnkmlopjinihiaaDoorBase
import Derived.Test.YtnkmlopjinihiaaDoorPlain
namespace Go.Proofs.YtnkmlopjinihiaaDoor
open Go.RowKit
set_option linter.unusedVariables false
set_option maxHeartbeats 400000

theorem lmade (l : Lay) (w : World) : Calls Tryd.prog 92 #[.agg l.vs.toArray] w fun e w' => e = .returned (.bool (decide (0 < l.cells))) ∧ Below w.heap.size w w' := by
  unfold Lay.vs
  go_enter Tryd.func92, Tryd.ntmps92
  go_wp2
  go_ret
  exact ⟨rfl, (Below.refl _ _).alloc (Nat.le_refl _) _⟩
theorem lthere (l : Lay) (k : Int) (w : World) : Calls Tryd.prog 89 #[.agg l.vs.toArray, .int .i64 k] w fun e w' => e = .returned (.bool (decide (0 < l.cells ∧ 0 ≤ k ∧ k < l.cells))) ∧ Below w.heap.size w w' := by
  unfold Lay.vs
  go_enter Tryd.func89, Tryd.ntmps89
  go_wp2_with (go_at_call 92; refine (lmade l _).mono ?_; rintro e w1 ⟨rfl, hb1⟩; obtain ⟨hc1, hf1⟩ := bcell hb1)
  all_goals go_ret
  all_goals refine ⟨ret_bool ?_, below_new hb1⟩
  all_goals clear hc1 hf1 hb1
  all_goals grind
theorem lkind (l : Lay) (k : Int) (w : World) : Calls Tryd.prog 45 #[.agg l.vs.toArray, .int .i64 k] w fun e w' => e = .returned (.int .i64 (l.kind k)) ∧ Below w.heap.size w w' := by
  unfold Lay.vs
  go_enter Tryd.func45, Tryd.ntmps45
  go_wp2_with (go_at_call 89; refine (lthere l k _).mono ?_; rintro e w1 ⟨rfl, hb1⟩; obtain ⟨hc1, hf1⟩ := bcell hb1)
  all_goals go_ret
  all_goals refine ⟨ret_int ?_, below_new hb1⟩
  all_goals clear hc1 hf1 hb1
  all_goals grind [Lay.kind]
theorem lslot (l : Lay) (hl : l.Bd) (f s : Int) (hf : -1 ≤ f ∧ f ≤ 200) (w : World) : Calls Tryd.prog 93 #[.agg l.vs.toArray, .int .i64 f, .int .i64 s] w fun e w' => e = .returned (.int .i64 (l.slotAt f s)) ∧ Below w.heap.size w w' := by
  have hl1 := hl.cap
  unfold Lay.vs
  go_enter Tryd.func93, Tryd.ntmps93
  go_wp2_with (go_at_call 92; refine (lmade l _).mono ?_; rintro e w1 ⟨rfl, hb1⟩; obtain ⟨hc1, hf1⟩ := bcell hb1)
  all_goals go_ret
  all_goals refine ⟨ret_int ?_, below_new hb1⟩
  all_goals clear hc1 hf1 hb1
  all_goals grind [Lay.slotAt]
theorem lmark (l : Lay) (hl : l.Bd) (s : Int) (w : World) : Calls Tryd.prog 25 #[.agg l.vs.toArray, .int .i64 s] w fun e w' => e = .returned (.int .i64 (l.mark s)) ∧ Below w.heap.size w w' := by
  have hl1 := hl.marks
  unfold Lay.vs
  go_enter Tryd.func25, Tryd.ntmps25
  go_wp2_with (go_at_call 93; refine (lslot l hl _ _ (by omega) _).mono ?_; rintro e w1 ⟨rfl, hb1⟩; obtain ⟨hc1, hf1⟩ := bcell hb1)
  go_ret
  exact ⟨rfl, below_new hb1⟩
theorem lslotOf (l : Lay) (hl : l.Bd) (s : Int) (w : World) : Calls Tryd.prog 26 #[.agg l.vs.toArray, .int .i64 s] w fun e w' => e = .returned (.int .i64 (l.slot s)) ∧ Below w.heap.size w w' := by
  have hl1 := hl.slots
  unfold Lay.vs
  go_enter Tryd.func26, Tryd.ntmps26
  go_wp2_with (go_at_call 93; refine (lslot l hl _ _ (by omega) _).mono ?_; rintro e w1 ⟨rfl, hb1⟩; obtain ⟨hc1, hf1⟩ := bcell hb1)
  go_ret
  exact ⟨rfl, below_new hb1⟩
theorem lgate (l : Lay) (hl : l.Bd) (s : Int) (w : World) : Calls Tryd.prog 24 #[.agg l.vs.toArray, .int .i64 s] w fun e w' => e = .returned (.int .i64 (l.gate s)) ∧ Below w.heap.size w w' := by
  have hl1 := hl.un
  unfold Lay.vs
  go_enter Tryd.func24, Tryd.ntmps24
  go_wp2_with (go_at_call 92; refine (lmade l _).mono ?_; rintro e w1 ⟨rfl, hb1⟩; obtain ⟨hc1, hf1⟩ := bcell hb1)
  all_goals go_ret
  all_goals refine ⟨ret_int ?_, below_new hb1⟩
  all_goals clear hc1 hf1 hb1
  all_goals grind [Lay.gate]
theorem lmarked (l : Lay) (hl : l.Bd) (k : Int) (hk : 0 ≤ k ∧ k ≤ 200) (w : World) : Calls Tryd.prog 88 #[.agg l.vs.toArray, .int .i64 k] w fun e w' => e = .returned (.tuple #[.int .i64 (k - l.marks), .bool (l.marked k)]) ∧ Below w.heap.size w w' := by
  have hl1 := hl.marks
  unfold Lay.vs
  by_cases h1 : 0 ≤ l.marks
  · by_cases h2 : l.marks ≤ k
    · go_enter Tryd.func88, Tryd.ntmps88
      go_wp2_with fail
      go_quiet (fail)
      go_wp2_with fail
      go_ret2
      exact ⟨ret_pair rfl (by grind [Lay.marked]), below_drewN ((Below.refl _ _).alloc (Nat.le_refl _) _) _⟩
    · have hd2 : decide (l.marks ≤ k) = false := by simpa using h2
      have hd3 : k < l.marks := by omega
      clear h2
      go_enter Tryd.func88, Tryd.ntmps88
      go_wp2_with fail
      go_quiet (fail)
      go_wp2_with fail
      go_ret2
      exact ⟨ret_pair rfl (by grind [Lay.marked]), below_drewN ((Below.refl _ _).alloc (Nat.le_refl _) _) _⟩
  · have hd2 : decide (0 ≤ l.marks) = false := by simpa using h1
    have hd3 : l.marks < 0 := by omega
    clear h1
    go_enter Tryd.func88, Tryd.ntmps88
    go_wp2_with fail
    go_quiet (fail)
    go_wp2_with fail
    go_ret2
    exact ⟨ret_pair rfl (by grind [Lay.marked]), below_drewN ((Below.refl _ _).alloc (Nat.le_refl _) _) _⟩
end Go.Proofs.YtnkmlopjinihiaaDoor
