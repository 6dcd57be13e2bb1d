/- Contracts of the packages wide and sakiaref01 (counters that go round): each call comes to the number that the plain function of XNum tells, and changes nothing. No condition but that the numbers are of their kinds. -/
import Derived.Test.YthnmpndofkgppaaDoorProg
import Derived.Test.YthnmpndofkgppaaDoorNum
import Derived.WalkKit
import Derived.WalkSpells
import Derived.WalkLawsBesides
import Derived.Lib.Hide
namespace Go.Proofs.YthnmpndofkgppaaDoor
open Go.RowKit
set_option linter.unusedVariables false
set_option maxHeartbeats 400000

theorem of32 (x : Int) (h : 0 ≤ x ∧ x ≤ 18446744073709551615) (w : World) :
    Calls Tryd.prog 26 #[.int .u64 x] w fun e w' => e = .returned (.int .u32 (cutM M32 x)) ∧ w = w' := by
  go_enter Tryd.func26, Tryd.ntmps26
  go_wp2
  go_ret
  exact ⟨ret_int (by first | exact w_of32 x | exact w_of64 x h), rfl⟩
theorem up32 (x : Int) (h : InM M32 x) (w : World) :
    Calls Tryd.prog 76 #[.int .u32 x] w fun e w' => e = .returned (.int .u64 x) ∧ w = w' := by
  have h' := bd32 h
  go_enter Tryd.func76, Tryd.ntmps76
  go_wp2
  go_ret
  exact ⟨rfl, rfl⟩
theorem add32 (a n : Int) (w : World) :
    Calls Tryd.prog 29 #[.int .u32 a, .int .i64 n] w fun e w' => e = .returned (.int .u32 (addM M32 a n)) ∧ w = w' := by
  go_enter Tryd.func29, Tryd.ntmps29
  go_wp2
  go_ret
  exact ⟨ret_int (w_add32 a n), rfl⟩
theorem bits32 (w : World) :
    Calls Tryd.prog 69 #[] w fun e w' => e = .returned (.int .i64 32) ∧ w = w' := by
  go_enter Tryd.func69, Tryd.ntmps69
  go_wp2
  go_ret
  exact ⟨rfl, rfl⟩
theorem signed32 (x : Int) (h : InM M32 x) (w : World) :
    Calls Tryd.prog 120 #[.int .u32 x] w fun e w' => e = .returned (.int .i64 (sgM M32 x)) ∧ w = w' := by
  have h2 := sgM_bd32 h
  go_enter Tryd.func120, Tryd.ntmps120
  go_wp2_with (go_at_call 69; refine (bits32 _).mono ?_; rintro e w' ⟨rfl, rfl⟩)
  go_ret
  exact ⟨ret_int (by first | (show wrap64 (wrap32 x) = _; rw [w_sg32 x h, wrap64_id (by omega)]) | (show wrap64 x = _; rw [w_sg64 x h]) | (show wrap32 x = _; rw [w_sg32 x h])), rfl⟩
theorem diff32 (a b : Int) (w : World) :
    Calls Tryd.prog 78 #[.int .u32 a, .int .u32 b] w fun e w' => e = .returned (.int .i64 (difM M32 a b)) ∧ w = w' := by
  go_enter Tryd.func78, Tryd.ntmps78
  go_wp2_with (go_at_call 120; refine (signed32 _ (w_sub32 a b) _).mono ?_; rintro e w' ⟨rfl, rfl⟩)
  go_ret
  exact ⟨ret_int (w_dif32 a b), rfl⟩
theorem less32 (a b : Int) (w : World) :
    Calls Tryd.prog 32 #[.int .u32 a, .int .u32 b] w fun e w' => e = .returned (.bool (decide (difM M32 a b < 0))) ∧ w = w' := by
  go_enter Tryd.func32, Tryd.ntmps32
  go_wp2_with (go_at_call 78; refine (diff32 _ _ _).mono ?_; rintro e w' ⟨rfl, rfl⟩)
  go_ret
  exact ⟨rfl, rfl⟩
theorem of64 (x : Int) (h : 0 ≤ x ∧ x ≤ 18446744073709551615) (w : World) :
    Calls Tryd.prog 80 #[.int .u64 x] w fun e w' => e = .returned (.int .u64 (cutM M64 x)) ∧ w = w' := by
  go_enter Tryd.func80, Tryd.ntmps80
  go_wp2
  go_ret
  exact ⟨ret_int (by first | exact w_of32 x | exact w_of64 x h), rfl⟩
theorem up64 (x : Int) (h : InM M64 x) (w : World) :
    Calls Tryd.prog 100 #[.int .u64 x] w fun e w' => e = .returned (.int .u64 x) ∧ w = w' := by
  have h' := bd64 h
  go_enter Tryd.func100, Tryd.ntmps100
  go_wp2
  go_ret
  exact ⟨rfl, rfl⟩
theorem add64 (a n : Int) (w : World) :
    Calls Tryd.prog 50 #[.int .u64 a, .int .i64 n] w fun e w' => e = .returned (.int .u64 (addM M64 a n)) ∧ w = w' := by
  go_enter Tryd.func50, Tryd.ntmps50
  go_wp2
  go_ret
  exact ⟨ret_int (w_add64 a n), rfl⟩
theorem bits64 (w : World) :
    Calls Tryd.prog 79 #[] w fun e w' => e = .returned (.int .i64 64) ∧ w = w' := by
  go_enter Tryd.func79, Tryd.ntmps79
  go_wp2
  go_ret
  exact ⟨rfl, rfl⟩
theorem signed64 (x : Int) (h : InM M64 x) (w : World) :
    Calls Tryd.prog 142 #[.int .u64 x] w fun e w' => e = .returned (.int .i64 (sgM M64 x)) ∧ w = w' := by
  have h2 := sgM_bd64 h
  go_enter Tryd.func142, Tryd.ntmps142
  go_wp2_with (go_at_call 79; refine (bits64 _).mono ?_; rintro e w' ⟨rfl, rfl⟩)
  go_ret
  exact ⟨ret_int (by first | (show wrap64 (wrap32 x) = _; rw [w_sg32 x h, wrap64_id (by omega)]) | (show wrap64 x = _; rw [w_sg64 x h]) | (show wrap32 x = _; rw [w_sg32 x h])), rfl⟩
theorem diff64 (a b : Int) (w : World) :
    Calls Tryd.prog 122 #[.int .u64 a, .int .u64 b] w fun e w' => e = .returned (.int .i64 (difM M64 a b)) ∧ w = w' := by
  go_enter Tryd.func122, Tryd.ntmps122
  go_wp2_with (go_at_call 142; refine (signed64 _ (w_sub64 a b) _).mono ?_; rintro e w' ⟨rfl, rfl⟩)
  go_ret
  exact ⟨ret_int (w_dif64 a b), rfl⟩
theorem less64 (a b : Int) (w : World) :
    Calls Tryd.prog 82 #[.int .u64 a, .int .u64 b] w fun e w' => e = .returned (.bool (decide (difM M64 a b < 0))) ∧ w = w' := by
  go_enter Tryd.func82, Tryd.ntmps82
  go_wp2_with (go_at_call 122; refine (diff64 _ _ _).mono ?_; rintro e w' ⟨rfl, rfl⟩)
  go_ret
  exact ⟨rfl, rfl⟩
theorem wright (x : Int) (w : World) :
    Calls Tryd.prog 106 #[.int .i64 x] w fun e w' => e = .returned (.bool (x == 32 || x == 64)) ∧ w = w' := by
  go_enter Tryd.func106, Tryd.ntmps106
  go_wp2
  all_goals go_ret
  all_goals exact ⟨ret_bool (by simp_all), rfl⟩
theorem wcut (width x : Int) (hw : width = 32 ∨ width = 64) (h : 0 ≤ x ∧ x ≤ 18446744073709551615) (w : World) :
    Calls Tryd.prog 127 #[.int .i64 width, .int .u64 x] w fun e w' => e = .returned (.int .u64 (cutM (MW width) x)) ∧ w = w' := by
  rcases hw with rfl | rfl
  · go_enter Tryd.func127, Tryd.ntmps127
    go_wp2_with (first | (go_at_call 26; refine (of32 _ h _).mono ?_; rintro e w' ⟨rfl, rfl⟩) | (go_at_call 76; refine (up32 _ (cutM_in32 _) _).mono ?_; rintro e w' ⟨rfl, rfl⟩))
    go_ret
    exact ⟨rfl, rfl⟩
  · go_enter Tryd.func127, Tryd.ntmps127
    go_wp2
    go_ret
    exact ⟨ret_int (w_of64 x h), rfl⟩
theorem rcut (width x : Int) (hw : width = 32 ∨ width = 64) (h : 0 ≤ x ∧ x ≤ 18446744073709551615) (w : World) :
    Calls Tryd.prog 110 #[.int .i64 width, .int .u64 x] w fun e w' => e = .returned (.int .u64 (cutM (MW width) x)) ∧ w = w' := by
  rcases hw with rfl | rfl
  · go_enter Tryd.func110, Tryd.ntmps110
    go_wp2
    go_ret
    exact ⟨rfl, rfl⟩
  · go_enter Tryd.func110, Tryd.ntmps110
    go_wp2
    go_ret
    exact ⟨ret_int (w_of64 x h), rfl⟩
theorem rplus (width a n : Int) (hw : width = 32 ∨ width = 64) (ha : 0 ≤ a ∧ a ≤ 18446744073709551615) (w : World) :
    Calls Tryd.prog 137 #[.int .i64 width, .int .u64 a, .int .i64 n] w fun e w' => e = .returned (.int .u64 (addM (MW width) a n)) ∧ w = w' := by
  go_enter Tryd.func137, Tryd.ntmps137
  go_wp2_with (go_at_call 110; refine (rcut _ _ hw (by simp only [u64_wrap]; omega) _).mono ?_; rintro e w' ⟨rfl, rfl⟩)
  go_ret
  exact ⟨ret_int (by rcases hw with rfl | rfl <;> simp only [u64_wrap, cutM, addM, MW, M32, M64] <;> simp <;> omega), rfl⟩
end Go.Proofs.YthnmpndofkgppaaDoor
