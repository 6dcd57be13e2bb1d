/- Contracts of the packages wide and sakiaref01 (counters that go round): each call comes to the number that the plain function of XNum tells, and changes nothing. No condition but that the numbers are of their kinds. -/
import Derived.Test.YthnmpndofkgppaaProg
import Derived.Test.YthnmpndofkgppaaNum
import Derived.WalkKit
import Derived.WalkSpells
import Derived.WalkLawsBesides
import Derived.Lib.Hide
namespace Go.Proofs.Ythnmpndofkgppaa
open Go.RowKit
set_option linter.unusedVariables false
set_option maxHeartbeats 400000

theorem of32 (x : Int) (h : 0 ≤ x ∧ x ≤ 18446744073709551615) (w : World) :
    Calls Try.prog 10 #[.int .u64 x] w fun e w' => e = .returned (.int .u32 (cutM M32 x)) ∧ w = w' := by
  go_enter Try.func10, Try.ntmps10
  go_wp2
  go_ret
  exact ⟨ret_int (by first | exact w_of32 x | exact w_of64 x h), rfl⟩
theorem up32 (x : Int) (h : InM M32 x) (w : World) :
    Calls Try.prog 55 #[.int .u32 x] w fun e w' => e = .returned (.int .u64 x) ∧ w = w' := by
  have h' := bd32 h
  go_enter Try.func55, Try.ntmps55
  go_wp2
  go_ret
  exact ⟨rfl, rfl⟩
theorem add32 (a n : Int) (w : World) :
    Calls Try.prog 14 #[.int .u32 a, .int .i64 n] w fun e w' => e = .returned (.int .u32 (addM M32 a n)) ∧ w = w' := by
  go_enter Try.func14, Try.ntmps14
  go_wp2
  go_ret
  exact ⟨ret_int (w_add32 a n), rfl⟩
theorem bits32 (w : World) :
    Calls Try.prog 30 #[] w fun e w' => e = .returned (.int .i64 32) ∧ w = w' := by
  go_enter Try.func30, Try.ntmps30
  go_wp2
  go_ret
  exact ⟨rfl, rfl⟩
theorem signed32 (x : Int) (h : InM M32 x) (w : World) :
    Calls Try.prog 37 #[.int .u32 x] w fun e w' => e = .returned (.int .i64 (sgM M32 x)) ∧ w = w' := by
  have h2 := sgM_bd32 h
  go_enter Try.func37, Try.ntmps37
  go_wp2_with (go_at_call 30; refine (bits32 _).mono ?_; rintro e w' ⟨rfl, rfl⟩)
  go_ret
  exact ⟨ret_int (by first | (show wrap64 (wrap32 x) = _; rw [w_sg32 x h, wrap64_id (by omega)]) | (show wrap64 x = _; rw [w_sg64 x h]) | (show wrap32 x = _; rw [w_sg32 x h])), rfl⟩
theorem diff32 (a b : Int) (w : World) :
    Calls Try.prog 15 #[.int .u32 a, .int .u32 b] w fun e w' => e = .returned (.int .i64 (difM M32 a b)) ∧ w = w' := by
  go_enter Try.func15, Try.ntmps15
  go_wp2_with (go_at_call 37; refine (signed32 _ (w_sub32 a b) _).mono ?_; rintro e w' ⟨rfl, rfl⟩)
  go_ret
  exact ⟨ret_int (w_dif32 a b), rfl⟩
theorem up64 (x : Int) (h : InM M64 x) (w : World) :
    Calls Try.prog 104 #[.int .u64 x] w fun e w' => e = .returned (.int .u64 x) ∧ w = w' := by
  have h' := bd64 h
  go_enter Try.func104, Try.ntmps104
  go_wp2
  go_ret
  exact ⟨rfl, rfl⟩
theorem add64 (a n : Int) (w : World) :
    Calls Try.prog 87 #[.int .u64 a, .int .i64 n] w fun e w' => e = .returned (.int .u64 (addM M64 a n)) ∧ w = w' := by
  go_enter Try.func87, Try.ntmps87
  go_wp2
  go_ret
  exact ⟨ret_int (w_add64 a n), rfl⟩
theorem wright (x : Int) (w : World) :
    Calls Try.prog 63 #[.int .i64 x] w fun e w' => e = .returned (.bool (x == 32 || x == 64)) ∧ w = w' := by
  go_enter Try.func63, Try.ntmps63
  go_wp2
  all_goals go_ret
  all_goals exact ⟨ret_bool (by simp_all), rfl⟩
theorem wcut (width x : Int) (hw : width = 32 ∨ width = 64) (h : 0 ≤ x ∧ x ≤ 18446744073709551615) (w : World) :
    Calls Try.prog 98 #[.int .i64 width, .int .u64 x] w fun e w' => e = .returned (.int .u64 (cutM (MW width) x)) ∧ w = w' := by
  rcases hw with rfl | rfl
  · go_enter Try.func98, Try.ntmps98
    go_wp2_with (first | (go_at_call 10; refine (of32 _ h _).mono ?_; rintro e w' ⟨rfl, rfl⟩) | (go_at_call 55; refine (up32 _ (cutM_in32 _) _).mono ?_; rintro e w' ⟨rfl, rfl⟩))
    go_ret
    exact ⟨rfl, rfl⟩
  · go_enter Try.func98, Try.ntmps98
    go_wp2
    go_ret
    exact ⟨ret_int (w_of64 x h), rfl⟩
end Go.Proofs.Ythnmpndofkgppaa
