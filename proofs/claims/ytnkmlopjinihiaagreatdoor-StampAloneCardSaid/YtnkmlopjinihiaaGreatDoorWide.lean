/- Contracts of the packages wide and sakiaref01 (counters that go round): each call comes to the number that the plain function of XNum tells, and changes nothing. No condition but that the numbers are of their kinds. -/
import Derived.Test.YtnkmlopjinihiaaGreatDoorProg
import Derived.Test.YtnkmlopjinihiaaGreatDoorNum
import Derived.WalkKit
import Derived.WalkSpells
import Derived.WalkLawsBesides
import Derived.Lib.Hide
namespace Go.Proofs.YtnkmlopjinihiaaGreatDoor
open Go.RowKit
set_option linter.unusedVariables false
set_option maxHeartbeats 400000

theorem of32 (x : Int) (h : 0 ≤ x ∧ x ≤ 18446744073709551615) (w : World) :
    Calls Tryz.prog 89 #[.int .u64 x] w fun e w' => e = .returned (.int .u32 (cutM M32 x)) ∧ w = w' := by
  go_enter Tryz.func89, Tryz.ntmps89
  go_wp2
  go_ret
  exact ⟨ret_int (by first | exact w_of32 x | exact w_of64 x h), rfl⟩
theorem up32 (x : Int) (h : InM M32 x) (w : World) :
    Calls Tryz.prog 101 #[.int .u32 x] w fun e w' => e = .returned (.int .u64 x) ∧ w = w' := by
  have h' := bd32 h
  go_enter Tryz.func101, Tryz.ntmps101
  go_wp2
  go_ret
  exact ⟨rfl, rfl⟩
theorem add32 (a n : Int) (w : World) :
    Calls Tryz.prog 100 #[.int .u32 a, .int .i64 n] w fun e w' => e = .returned (.int .u32 (addM M32 a n)) ∧ w = w' := by
  go_enter Tryz.func100, Tryz.ntmps100
  go_wp2
  go_ret
  exact ⟨ret_int (w_add32 a n), rfl⟩
theorem bits32 (w : World) :
    Calls Tryz.prog 88 #[] w fun e w' => e = .returned (.int .i64 32) ∧ w = w' := by
  go_enter Tryz.func88, Tryz.ntmps88
  go_wp2
  go_ret
  exact ⟨rfl, rfl⟩
theorem signed32 (x : Int) (h : InM M32 x) (w : World) :
    Calls Tryz.prog 183 #[.int .u32 x] w fun e w' => e = .returned (.int .i64 (sgM M32 x)) ∧ w = w' := by
  have h2 := sgM_bd32 h
  go_enter Tryz.func183, Tryz.ntmps183
  go_wp2_with (go_at_call 88; refine (bits32 _).mono ?_; rintro e w' ⟨rfl, rfl⟩)
  go_ret
  exact ⟨ret_int (by first | (show wrap64 (wrap32 x) = _; rw [w_sg32 x h, wrap64_id (by omega)]) | (show wrap64 x = _; rw [w_sg64 x h]) | (show wrap32 x = _; rw [w_sg32 x h])), rfl⟩
theorem diff32 (a b : Int) (w : World) :
    Calls Tryz.prog 173 #[.int .u32 a, .int .u32 b] w fun e w' => e = .returned (.int .i64 (difM M32 a b)) ∧ w = w' := by
  go_enter Tryz.func173, Tryz.ntmps173
  go_wp2_with (go_at_call 183; refine (signed32 _ (w_sub32 a b) _).mono ?_; rintro e w' ⟨rfl, rfl⟩)
  go_ret
  exact ⟨ret_int (w_dif32 a b), rfl⟩
theorem less32 (a b : Int) (w : World) :
    Calls Tryz.prog 146 #[.int .u32 a, .int .u32 b] w fun e w' => e = .returned (.bool (decide (difM M32 a b < 0))) ∧ w = w' := by
  go_enter Tryz.func146, Tryz.ntmps146
  go_wp2_with (go_at_call 173; refine (diff32 _ _ _).mono ?_; rintro e w' ⟨rfl, rfl⟩)
  go_ret
  exact ⟨rfl, rfl⟩
theorem of64 (x : Int) (h : 0 ≤ x ∧ x ≤ 18446744073709551615) (w : World) :
    Calls Tryz.prog 45 #[.int .u64 x] w fun e w' => e = .returned (.int .u64 (cutM M64 x)) ∧ w = w' := by
  go_enter Tryz.func45, Tryz.ntmps45
  go_wp2
  go_ret
  exact ⟨ret_int (by first | exact w_of32 x | exact w_of64 x h), rfl⟩
theorem up64 (x : Int) (h : InM M64 x) (w : World) :
    Calls Tryz.prog 60 #[.int .u64 x] w fun e w' => e = .returned (.int .u64 x) ∧ w = w' := by
  have h' := bd64 h
  go_enter Tryz.func60, Tryz.ntmps60
  go_wp2
  go_ret
  exact ⟨rfl, rfl⟩
theorem add64 (a n : Int) (w : World) :
    Calls Tryz.prog 16 #[.int .u64 a, .int .i64 n] w fun e w' => e = .returned (.int .u64 (addM M64 a n)) ∧ w = w' := by
  go_enter Tryz.func16, Tryz.ntmps16
  go_wp2
  go_ret
  exact ⟨ret_int (w_add64 a n), rfl⟩
theorem bits64 (w : World) :
    Calls Tryz.prog 44 #[] w fun e w' => e = .returned (.int .i64 64) ∧ w = w' := by
  go_enter Tryz.func44, Tryz.ntmps44
  go_wp2
  go_ret
  exact ⟨rfl, rfl⟩
theorem signed64 (x : Int) (h : InM M64 x) (w : World) :
    Calls Tryz.prog 180 #[.int .u64 x] w fun e w' => e = .returned (.int .i64 (sgM M64 x)) ∧ w = w' := by
  have h2 := sgM_bd64 h
  go_enter Tryz.func180, Tryz.ntmps180
  go_wp2_with (go_at_call 44; refine (bits64 _).mono ?_; rintro e w' ⟨rfl, rfl⟩)
  go_ret
  exact ⟨ret_int (by first | (show wrap64 (wrap32 x) = _; rw [w_sg32 x h, wrap64_id (by omega)]) | (show wrap64 x = _; rw [w_sg64 x h]) | (show wrap32 x = _; rw [w_sg32 x h])), rfl⟩
theorem diff64 (a b : Int) (w : World) :
    Calls Tryz.prog 161 #[.int .u64 a, .int .u64 b] w fun e w' => e = .returned (.int .i64 (difM M64 a b)) ∧ w = w' := by
  go_enter Tryz.func161, Tryz.ntmps161
  go_wp2_with (go_at_call 180; refine (signed64 _ (w_sub64 a b) _).mono ?_; rintro e w' ⟨rfl, rfl⟩)
  go_ret
  exact ⟨ret_int (w_dif64 a b), rfl⟩
theorem less64 (a b : Int) (w : World) :
    Calls Tryz.prog 117 #[.int .u64 a, .int .u64 b] w fun e w' => e = .returned (.bool (decide (difM M64 a b < 0))) ∧ w = w' := by
  go_enter Tryz.func117, Tryz.ntmps117
  go_wp2_with (go_at_call 161; refine (diff64 _ _ _).mono ?_; rintro e w' ⟨rfl, rfl⟩)
  go_ret
  exact ⟨rfl, rfl⟩
theorem wright (x : Int) (w : World) :
    Calls Tryz.prog 103 #[.int .i64 x] w fun e w' => e = .returned (.bool (x == 32 || x == 64)) ∧ w = w' := by
  go_enter Tryz.func103, Tryz.ntmps103
  go_wp2
  all_goals go_ret
  all_goals exact ⟨ret_bool (by simp_all), rfl⟩
theorem wcut (width x : Int) (hw : width = 32 ∨ width = 64) (h : 0 ≤ x ∧ x ≤ 18446744073709551615) (w : World) :
    Calls Tryz.prog 115 #[.int .i64 width, .int .u64 x] w fun e w' => e = .returned (.int .u64 (cutM (MW width) x)) ∧ w = w' := by
  rcases hw with rfl | rfl
  · go_enter Tryz.func115, Tryz.ntmps115
    go_wp2_with (first | (go_at_call 89; refine (of32 _ h _).mono ?_; rintro e w' ⟨rfl, rfl⟩) | (go_at_call 101; refine (up32 _ (cutM_in32 _) _).mono ?_; rintro e w' ⟨rfl, rfl⟩))
    go_ret
    exact ⟨rfl, rfl⟩
  · go_enter Tryz.func115, Tryz.ntmps115
    go_wp2
    go_ret
    exact ⟨ret_int (w_of64 x h), rfl⟩
end Go.Proofs.YtnkmlopjinihiaaGreatDoor
