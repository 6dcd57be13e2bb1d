/- Contracts of gate.Fits, gate.Space, of the reference's Fits and Space, and of sakialaw16.live: numbers alone. -/
import Derived.Test.YtnkmlopjinihiaaDoorWide
import Derived.Deep.QuietTactic
import Derived.BigQuiet
namespace Go.Proofs.YtnkmlopjinihiaaDoor
open Go.RowKit
set_option linter.unusedVariables false
set_option maxHeartbeats 400000

theorem fits32 (cap a n l : Int) (w : World) :
    Calls Tryd.prog 94 #[.int .i64 cap, .int .u32 a, .int .i64 n, .int .u32 l] w fun e w' => e = .returned (.bool (decide (difM M32 (addM M32 a n) l ≤ cap))) ∧ w = w' := by
  go_enter Tryd.func94, Tryd.ntmps94
  go_wp2_with (first | (go_at_call 35; refine (add32 _ _ _).mono ?_; rintro e w' ⟨rfl, rfl⟩) | (go_at_call 105; refine (diff32 _ _ _).mono ?_; rintro e w' ⟨rfl, rfl⟩))
  go_ret
  exact ⟨rfl, rfl⟩
theorem space32 (cap a l : Int) (hc : -9223372036854775808 ≤ cap ∧ cap ≤ 9223372036854775807) (w : World) :
    Calls Tryd.prog 95 #[.int .i64 cap, .int .u32 a, .int .u32 l] w fun e w' => e = .returned (.int .i64 (spaceI cap (difM M32 a l))) ∧ w = w' := by
  have hd := difM_bd32 a l
  go_enter Tryd.func95, Tryd.ntmps95
  go_wp2_with (go_at_call 105; refine (diff32 _ _ _).mono ?_; rintro e w' ⟨rfl, rfl⟩)
  all_goals go_ret
  all_goals exact ⟨ret_int (by unfold spaceI; split <;> (try split) <;> omega), rfl⟩
theorem fits64 (cap a n l : Int) (w : World) :
    Calls Tryd.prog 179 #[.int .i64 cap, .int .u64 a, .int .i64 n, .int .u64 l] w fun e w' => e = .returned (.bool (decide (difM M64 (addM M64 a n) l ≤ cap))) ∧ w = w' := by
  go_enter Tryd.func179, Tryd.ntmps179
  go_wp2_with (first | (go_at_call 55; refine (add64 _ _ _).mono ?_; rintro e w' ⟨rfl, rfl⟩) | (go_at_call 169; refine (diff64 _ _ _).mono ?_; rintro e w' ⟨rfl, rfl⟩))
  go_ret
  exact ⟨rfl, rfl⟩
theorem live16 (w : World) : Calls Tryd.prog 27 #[] w fun e w' => e = .returned (.bool true) ∧ w = w' := by
  go_enter Tryd.func27, Tryd.ntmps27
  go_wp2_with (first | (go_at_call 94; refine (fits32 _ _ _ _ _).mono ?_; rintro e w' ⟨rfl, rfl⟩) | (go_at_call 95; refine (space32 _ _ _ (by omega) _).mono ?_; rintro e w' ⟨rfl, rfl⟩))
  go_ret
  exact ⟨ret_bool (by decide +kernel), rfl⟩
end Go.Proofs.YtnkmlopjinihiaaDoor
