/- Contracts of the packages wide and sakiaref01 (counters that go round): each call comes to the number that the plain function of XNum tells, and changes nothing. No condition but that the numbers are of their kinds. -/
import Derived.Test.YtmjpdojecdnkjaaGreatProg
import Derived.Test.YtmjpdojecdnkjaaGreatNum
import Derived.WalkKit
import Derived.WalkSpells
import Derived.WalkLawsBesides
import Derived.Lib.Hide
namespace Go.Proofs.YtmjpdojecdnkjaaGreat
open Go.RowKit
set_option linter.unusedVariables false
set_option maxHeartbeats 400000

theorem of32 (x : Int) (h : 0 ≤ x ∧ x ≤ 18446744073709551615) (w : World) :
    Calls Tryz.prog 80 #[.int .u64 x] w fun e w' => e = .returned (.int .u32 (cutM M32 x)) ∧ w = w' := by
  go_enter Tryz.func80, Tryz.ntmps80
  go_wp2
  go_ret
  exact ⟨ret_int (by first | exact w_of32 x | exact w_of64 x h), rfl⟩
theorem up32 (x : Int) (h : InM M32 x) (w : World) :
    Calls Tryz.prog 106 #[.int .u32 x] w fun e w' => e = .returned (.int .u64 x) ∧ w = w' := by
  have h' := bd32 h
  go_enter Tryz.func106, Tryz.ntmps106
  go_wp2
  go_ret
  exact ⟨rfl, rfl⟩
theorem add32 (a n : Int) (w : World) :
    Calls Tryz.prog 104 #[.int .u32 a, .int .i64 n] w fun e w' => e = .returned (.int .u32 (addM M32 a n)) ∧ w = w' := by
  go_enter Tryz.func104, Tryz.ntmps104
  go_wp2
  go_ret
  exact ⟨ret_int (w_add32 a n), rfl⟩
theorem bits32 (w : World) :
    Calls Tryz.prog 96 #[] w fun e w' => e = .returned (.int .i64 32) ∧ w = w' := by
  go_enter Tryz.func96, Tryz.ntmps96
  go_wp2
  go_ret
  exact ⟨rfl, rfl⟩
theorem signed32 (x : Int) (h : InM M32 x) (w : World) :
    Calls Tryz.prog 149 #[.int .u32 x] w fun e w' => e = .returned (.int .i64 (sgM M32 x)) ∧ w = w' := by
  have h2 := sgM_bd32 h
  go_enter Tryz.func149, Tryz.ntmps149
  go_wp2_with (go_at_call 96; refine (bits32 _).mono ?_; rintro e w' ⟨rfl, rfl⟩)
  go_ret
  exact ⟨ret_int (by first | (show wrap64 (wrap32 x) = _; rw [w_sg32 x h, wrap64_id (by omega)]) | (show wrap64 x = _; rw [w_sg64 x h]) | (show wrap32 x = _; rw [w_sg32 x h])), rfl⟩
theorem diff32 (a b : Int) (w : World) :
    Calls Tryz.prog 95 #[.int .u32 a, .int .u32 b] w fun e w' => e = .returned (.int .i64 (difM M32 a b)) ∧ w = w' := by
  go_enter Tryz.func95, Tryz.ntmps95
  go_wp2_with (go_at_call 149; refine (signed32 _ (w_sub32 a b) _).mono ?_; rintro e w' ⟨rfl, rfl⟩)
  go_ret
  exact ⟨ret_int (w_dif32 a b), rfl⟩
theorem of64 (x : Int) (h : 0 ≤ x ∧ x ≤ 18446744073709551615) (w : World) :
    Calls Tryz.prog 49 #[.int .u64 x] w fun e w' => e = .returned (.int .u64 (cutM M64 x)) ∧ w = w' := by
  go_enter Tryz.func49, Tryz.ntmps49
  go_wp2
  go_ret
  exact ⟨ret_int (by first | exact w_of32 x | exact w_of64 x h), rfl⟩
theorem up64 (x : Int) (h : InM M64 x) (w : World) :
    Calls Tryz.prog 151 #[.int .u64 x] w fun e w' => e = .returned (.int .u64 x) ∧ w = w' := by
  have h' := bd64 h
  go_enter Tryz.func151, Tryz.ntmps151
  go_wp2
  go_ret
  exact ⟨rfl, rfl⟩
theorem add64 (a n : Int) (w : World) :
    Calls Tryz.prog 123 #[.int .u64 a, .int .i64 n] w fun e w' => e = .returned (.int .u64 (addM M64 a n)) ∧ w = w' := by
  go_enter Tryz.func123, Tryz.ntmps123
  go_wp2
  go_ret
  exact ⟨ret_int (w_add64 a n), rfl⟩
theorem bits64 (w : World) :
    Calls Tryz.prog 48 #[] w fun e w' => e = .returned (.int .i64 64) ∧ w = w' := by
  go_enter Tryz.func48, Tryz.ntmps48
  go_wp2
  go_ret
  exact ⟨rfl, rfl⟩
theorem signed64 (x : Int) (h : InM M64 x) (w : World) :
    Calls Tryz.prog 150 #[.int .u64 x] w fun e w' => e = .returned (.int .i64 (sgM M64 x)) ∧ w = w' := by
  have h2 := sgM_bd64 h
  go_enter Tryz.func150, Tryz.ntmps150
  go_wp2_with (go_at_call 48; refine (bits64 _).mono ?_; rintro e w' ⟨rfl, rfl⟩)
  go_ret
  exact ⟨ret_int (by first | (show wrap64 (wrap32 x) = _; rw [w_sg32 x h, wrap64_id (by omega)]) | (show wrap64 x = _; rw [w_sg64 x h]) | (show wrap32 x = _; rw [w_sg32 x h])), rfl⟩
theorem diff64 (a b : Int) (w : World) :
    Calls Tryz.prog 100 #[.int .u64 a, .int .u64 b] w fun e w' => e = .returned (.int .i64 (difM M64 a b)) ∧ w = w' := by
  go_enter Tryz.func100, Tryz.ntmps100
  go_wp2_with (go_at_call 150; refine (signed64 _ (w_sub64 a b) _).mono ?_; rintro e w' ⟨rfl, rfl⟩)
  go_ret
  exact ⟨ret_int (w_dif64 a b), rfl⟩
theorem wright (x : Int) (w : World) :
    Calls Tryz.prog 107 #[.int .i64 x] w fun e w' => e = .returned (.bool (x == 32 || x == 64)) ∧ w = w' := by
  go_enter Tryz.func107, Tryz.ntmps107
  go_wp2
  all_goals go_ret
  all_goals exact ⟨ret_bool (by simp_all), rfl⟩
theorem wcut (width x : Int) (hw : width = 32 ∨ width = 64) (h : 0 ≤ x ∧ x ≤ 18446744073709551615) (w : World) :
    Calls Tryz.prog 157 #[.int .i64 width, .int .u64 x] w fun e w' => e = .returned (.int .u64 (cutM (MW width) x)) ∧ w = w' := by
  rcases hw with rfl | rfl
  · go_enter Tryz.func157, Tryz.ntmps157
    go_wp2_with (first | (go_at_call 80; refine (of32 _ h _).mono ?_; rintro e w' ⟨rfl, rfl⟩) | (go_at_call 106; refine (up32 _ (cutM_in32 _) _).mono ?_; rintro e w' ⟨rfl, rfl⟩))
    go_ret
    exact ⟨rfl, rfl⟩
  · go_enter Tryz.func157, Tryz.ntmps157
    go_wp2
    go_ret
    exact ⟨ret_int (w_of64 x h), rfl⟩
theorem rcut (width x : Int) (hw : width = 32 ∨ width = 64) (h : 0 ≤ x ∧ x ≤ 18446744073709551615) (w : World) :
    Calls Tryz.prog 62 #[.int .i64 width, .int .u64 x] w fun e w' => e = .returned (.int .u64 (cutM (MW width) x)) ∧ w = w' := by
  rcases hw with rfl | rfl
  · go_enter Tryz.func62, Tryz.ntmps62
    go_wp2
    go_ret
    exact ⟨rfl, rfl⟩
  · go_enter Tryz.func62, Tryz.ntmps62
    go_wp2
    go_ret
    exact ⟨ret_int (w_of64 x h), rfl⟩
theorem rplus (width a n : Int) (hw : width = 32 ∨ width = 64) (ha : 0 ≤ a ∧ a ≤ 18446744073709551615) (w : World) :
    Calls Tryz.prog 79 #[.int .i64 width, .int .u64 a, .int .i64 n] w fun e w' => e = .returned (.int .u64 (addM (MW width) a n)) ∧ w = w' := by
  go_enter Tryz.func79, Tryz.ntmps79
  go_wp2_with (go_at_call 62; refine (rcut _ _ hw (by simp only [u64_wrap]; omega) _).mono ?_; rintro e w' ⟨rfl, rfl⟩)
  go_ret
  exact ⟨ret_int (by rcases hw with rfl | rfl <;> simp only [u64_wrap, cutM, addM, MW, M32, M64] <;> simp <;> omega), rfl⟩
theorem rgap (width a b : Int) (hw : width = 32 ∨ width = 64) (ha : 0 ≤ a ∧ a ≤ 18446744073709551615) (hb : 0 ≤ b ∧ b ≤ 18446744073709551615) (w : World) :
    Calls Tryz.prog 98 #[.int .i64 width, .int .u64 a, .int .u64 b] w fun e w' => e = .returned (.int .i64 (difM (MW width) a b)) ∧ w = w' := by
  rcases hw with rfl | rfl
  · go_enter Tryz.func98, Tryz.ntmps98
    go_wp2
    all_goals go_ret
    all_goals exact ⟨ret_int (by simp only [difM, sgM, MW, M32]; simp; split <;> omega), rfl⟩
  · go_enter Tryz.func98, Tryz.ntmps98
    go_wp2
    go_ret
    exact ⟨ret_int (by show wrap64 (IntKind.u64.wrap (a - b)) = _; rw [w_sg64 _ (w_sub64 a b)]; exact w_dif64 a b), rfl⟩
end Go.Proofs.YtmjpdojecdnkjaaGreat
