/- Contracts of gate.Fits, gate.Space, of the reference's Fits and Space, and of sakialaw16.live: numbers alone. -/
import Derived.Test.YtmjpdojecdnkjaaWide
import Derived.Deep.QuietTactic
import Derived.BigQuiet
namespace Go.Proofs.Ytmjpdojecdnkjaa
open Go.RowKit
set_option linter.unusedVariables false
set_option maxHeartbeats 400000

theorem fits32 (cap a n l : Int) (w : World) :
    Calls Try.prog 11 #[.int .i64 cap, .int .u32 a, .int .i64 n, .int .u32 l] w fun e w' => e = .returned (.bool (decide (difM M32 (addM M32 a n) l ≤ cap))) ∧ w = w' := by
  go_enter Try.func11, Try.ntmps11
  go_wp2_with (first | (go_at_call 48; refine (add32 _ _ _).mono ?_; rintro e w' ⟨rfl, rfl⟩) | (go_at_call 47; refine (diff32 _ _ _).mono ?_; rintro e w' ⟨rfl, rfl⟩))
  go_ret
  exact ⟨rfl, rfl⟩
theorem space32 (cap a l : Int) (hc : -9223372036854775808 ≤ cap ∧ cap ≤ 9223372036854775807) (w : World) :
    Calls Try.prog 14 #[.int .i64 cap, .int .u32 a, .int .u32 l] w fun e w' => e = .returned (.int .i64 (spaceI cap (difM M32 a l))) ∧ w = w' := by
  have hd := difM_bd32 a l
  go_enter Try.func14, Try.ntmps14
  go_wp2_with (go_at_call 47; refine (diff32 _ _ _).mono ?_; rintro e w' ⟨rfl, rfl⟩)
  all_goals go_ret
  all_goals exact ⟨ret_int (by unfold spaceI; split <;> (try split) <;> omega), rfl⟩
theorem fits64 (cap a n l : Int) (w : World) :
    Calls Try.prog 13 #[.int .i64 cap, .int .u64 a, .int .i64 n, .int .u64 l] w fun e w' => e = .returned (.bool (decide (difM M64 (addM M64 a n) l ≤ cap))) ∧ w = w' := by
  go_enter Try.func13, Try.ntmps13
  go_wp2_with (first | (go_at_call 33; refine (add64 _ _ _).mono ?_; rintro e w' ⟨rfl, rfl⟩) | (go_at_call 51; refine (diff64 _ _ _).mono ?_; rintro e w' ⟨rfl, rfl⟩))
  go_ret
  exact ⟨rfl, rfl⟩
theorem space64 (cap a l : Int) (hc : -9223372036854775808 ≤ cap ∧ cap ≤ 9223372036854775807) (w : World) :
    Calls Try.prog 16 #[.int .i64 cap, .int .u64 a, .int .u64 l] w fun e w' => e = .returned (.int .i64 (spaceI cap (difM M64 a l))) ∧ w = w' := by
  have hd := difM_bd64 a l
  go_enter Try.func16, Try.ntmps16
  go_wp2_with (go_at_call 51; refine (diff64 _ _ _).mono ?_; rintro e w' ⟨rfl, rfl⟩)
  all_goals go_ret
  all_goals exact ⟨ret_int (by unfold spaceI; split <;> (try split) <;> omega), rfl⟩
theorem rfits (width cap a n l : Int) (hw : width = 32 ∨ width = 64) (ha : 0 ≤ a ∧ a ≤ 18446744073709551615) (hl : 0 ≤ l ∧ l ≤ 18446744073709551615) (w : World) :
    Calls Try.prog 12 #[.int .i64 width, .int .i64 cap, .int .u64 a, .int .i64 n, .int .u64 l] w fun e w' => e = .returned (.bool (decide (difM (MW width) (addM (MW width) a n) l ≤ cap))) ∧ w = w' := by
  have hb : 0 ≤ addM (MW width) a n ∧ addM (MW width) a n ≤ 18446744073709551615 := by rcases hw with rfl | rfl <;> simp only [addM, MW, M32, M64] <;> simp <;> omega
  go_enter Try.func12, Try.ntmps12
  go_wp2_with (first | (go_at_call 50; refine (rplus _ _ _ hw ha _).mono ?_; rintro e w' ⟨rfl, rfl⟩) | (go_at_call 49; refine (rgap _ _ _ hw hb hl _).mono ?_; rintro e w' ⟨rfl, rfl⟩))
  go_ret
  exact ⟨rfl, rfl⟩
theorem rspace (width cap a l : Int) (hw : width = 32 ∨ width = 64) (hc : -9223372036854775808 ≤ cap ∧ cap ≤ 9223372036854775807) (ha : 0 ≤ a ∧ a ≤ 18446744073709551615) (hl : 0 ≤ l ∧ l ≤ 18446744073709551615) (w : World) :
    Calls Try.prog 15 #[.int .i64 width, .int .i64 cap, .int .u64 a, .int .u64 l] w fun e w' => e = .returned (.int .i64 (spaceI cap (difM (MW width) a l))) ∧ w = w' := by
  have hd : -9223372036854775808 ≤ difM (MW width) a l ∧ difM (MW width) a l ≤ 9223372036854775807 := by
    rcases hw with rfl | rfl
    · exact difM_i64_32 a l
    · exact difM_bd64 a l
  go_enter Try.func15, Try.ntmps15
  go_wp2_with (go_at_call 49; refine (rgap _ _ _ hw ha hl _).mono ?_; rintro e w' ⟨rfl, rfl⟩)
  all_goals go_ret
  all_goals exact ⟨ret_int (by unfold spaceI; split <;> (try split) <;> omega), rfl⟩
theorem live16 (w : World) : Calls Try.prog 17 #[] w fun e w' => e = .returned (.bool true) ∧ w = w' := by
  go_enter Try.func17, Try.ntmps17
  go_wp2_with (first | (go_at_call 11; refine (fits32 _ _ _ _ _).mono ?_; rintro e w' ⟨rfl, rfl⟩) | (go_at_call 14; refine (space32 _ _ _ (by omega) _).mono ?_; rintro e w' ⟨rfl, rfl⟩))
  go_ret
  exact ⟨ret_bool (by decide +kernel), rfl⟩
end Go.Proofs.Ytmjpdojecdnkjaa
