/- Contracts of the packages wide and sakiaref01 (counters that go round): each call comes to the number that the plain function of XNum tells, and changes nothing. No condition but that the numbers are of their kinds. -/
import Derived.Test.YtnkmlopjinihiaaDoorProg
import Derived.Test.YtnkmlopjinihiaaDoorNum
import Derived.WalkKit
import Derived.WalkSpells
import Derived.WalkLawsBesides
import Derived.Lib.Hide
namespace Go.Proofs.YtnkmlopjinihiaaDoor
open Go.RowKit
set_option linter.unusedVariables false
set_option maxHeartbeats 400000

theorem of32 (x : Int) (h : 0 ≤ x ∧ x ≤ 18446744073709551615) (w : World) :
    Calls Tryd.prog 32 #[.int .u64 x] w fun e w' => e = .returned (.int .u32 (cutM M32 x)) ∧ w = w' := by
  go_enter Tryd.func32, Tryd.ntmps32
  go_wp2
  go_ret
  exact ⟨ret_int (by first | exact w_of32 x | exact w_of64 x h), rfl⟩
theorem up32 (x : Int) (h : InM M32 x) (w : World) :
    Calls Tryd.prog 103 #[.int .u32 x] w fun e w' => e = .returned (.int .u64 x) ∧ w = w' := by
  have h' := bd32 h
  go_enter Tryd.func103, Tryd.ntmps103
  go_wp2
  go_ret
  exact ⟨rfl, rfl⟩
theorem add32 (a n : Int) (w : World) :
    Calls Tryd.prog 35 #[.int .u32 a, .int .i64 n] w fun e w' => e = .returned (.int .u32 (addM M32 a n)) ∧ w = w' := by
  go_enter Tryd.func35, Tryd.ntmps35
  go_wp2
  go_ret
  exact ⟨ret_int (w_add32 a n), rfl⟩
theorem bits32 (w : World) :
    Calls Tryd.prog 96 #[] w fun e w' => e = .returned (.int .i64 32) ∧ w = w' := by
  go_enter Tryd.func96, Tryd.ntmps96
  go_wp2
  go_ret
  exact ⟨rfl, rfl⟩
theorem signed32 (x : Int) (h : InM M32 x) (w : World) :
    Calls Tryd.prog 167 #[.int .u32 x] w fun e w' => e = .returned (.int .i64 (sgM M32 x)) ∧ w = w' := by
  have h2 := sgM_bd32 h
  go_enter Tryd.func167, Tryd.ntmps167
  go_wp2_with (go_at_call 96; refine (bits32 _).mono ?_; rintro e w' ⟨rfl, rfl⟩)
  go_ret
  exact ⟨ret_int (by first | (show wrap64 (wrap32 x) = _; rw [w_sg32 x h, wrap64_id (by omega)]) | (show wrap64 x = _; rw [w_sg64 x h]) | (show wrap32 x = _; rw [w_sg32 x h])), rfl⟩
theorem diff32 (a b : Int) (w : World) :
    Calls Tryd.prog 105 #[.int .u32 a, .int .u32 b] w fun e w' => e = .returned (.int .i64 (difM M32 a b)) ∧ w = w' := by
  go_enter Tryd.func105, Tryd.ntmps105
  go_wp2_with (go_at_call 167; refine (signed32 _ (w_sub32 a b) _).mono ?_; rintro e w' ⟨rfl, rfl⟩)
  go_ret
  exact ⟨ret_int (w_dif32 a b), rfl⟩
theorem less32 (a b : Int) (w : World) :
    Calls Tryd.prog 38 #[.int .u32 a, .int .u32 b] w fun e w' => e = .returned (.bool (decide (difM M32 a b < 0))) ∧ w = w' := by
  go_enter Tryd.func38, Tryd.ntmps38
  go_wp2_with (go_at_call 105; refine (diff32 _ _ _).mono ?_; rintro e w' ⟨rfl, rfl⟩)
  go_ret
  exact ⟨rfl, rfl⟩
theorem of64 (x : Int) (h : 0 ≤ x ∧ x ≤ 18446744073709551615) (w : World) :
    Calls Tryd.prog 107 #[.int .u64 x] w fun e w' => e = .returned (.int .u64 (cutM M64 x)) ∧ w = w' := by
  go_enter Tryd.func107, Tryd.ntmps107
  go_wp2
  go_ret
  exact ⟨ret_int (by first | exact w_of32 x | exact w_of64 x h), rfl⟩
theorem up64 (x : Int) (h : InM M64 x) (w : World) :
    Calls Tryd.prog 128 #[.int .u64 x] w fun e w' => e = .returned (.int .u64 x) ∧ w = w' := by
  have h' := bd64 h
  go_enter Tryd.func128, Tryd.ntmps128
  go_wp2
  go_ret
  exact ⟨rfl, rfl⟩
theorem add64 (a n : Int) (w : World) :
    Calls Tryd.prog 55 #[.int .u64 a, .int .i64 n] w fun e w' => e = .returned (.int .u64 (addM M64 a n)) ∧ w = w' := by
  go_enter Tryd.func55, Tryd.ntmps55
  go_wp2
  go_ret
  exact ⟨ret_int (w_add64 a n), rfl⟩
theorem bits64 (w : World) :
    Calls Tryd.prog 106 #[] w fun e w' => e = .returned (.int .i64 64) ∧ w = w' := by
  go_enter Tryd.func106, Tryd.ntmps106
  go_wp2
  go_ret
  exact ⟨rfl, rfl⟩
theorem signed64 (x : Int) (h : InM M64 x) (w : World) :
    Calls Tryd.prog 199 #[.int .u64 x] w fun e w' => e = .returned (.int .i64 (sgM M64 x)) ∧ w = w' := by
  have h2 := sgM_bd64 h
  go_enter Tryd.func199, Tryd.ntmps199
  go_wp2_with (go_at_call 106; refine (bits64 _).mono ?_; rintro e w' ⟨rfl, rfl⟩)
  go_ret
  exact ⟨ret_int (by first | (show wrap64 (wrap32 x) = _; rw [w_sg32 x h, wrap64_id (by omega)]) | (show wrap64 x = _; rw [w_sg64 x h]) | (show wrap32 x = _; rw [w_sg32 x h])), rfl⟩
theorem diff64 (a b : Int) (w : World) :
    Calls Tryd.prog 169 #[.int .u64 a, .int .u64 b] w fun e w' => e = .returned (.int .i64 (difM M64 a b)) ∧ w = w' := by
  go_enter Tryd.func169, Tryd.ntmps169
  go_wp2_with (go_at_call 199; refine (signed64 _ (w_sub64 a b) _).mono ?_; rintro e w' ⟨rfl, rfl⟩)
  go_ret
  exact ⟨ret_int (w_dif64 a b), rfl⟩
theorem less64 (a b : Int) (w : World) :
    Calls Tryd.prog 109 #[.int .u64 a, .int .u64 b] w fun e w' => e = .returned (.bool (decide (difM M64 a b < 0))) ∧ w = w' := by
  go_enter Tryd.func109, Tryd.ntmps109
  go_wp2_with (go_at_call 169; refine (diff64 _ _ _).mono ?_; rintro e w' ⟨rfl, rfl⟩)
  go_ret
  exact ⟨rfl, rfl⟩
theorem wright (x : Int) (w : World) :
    Calls Tryd.prog 152 #[.int .i64 x] w fun e w' => e = .returned (.bool (x == 32 || x == 64)) ∧ w = w' := by
  go_enter Tryd.func152, Tryd.ntmps152
  go_wp2
  all_goals go_ret
  all_goals exact ⟨ret_bool (by simp_all), rfl⟩
theorem wcut (width x : Int) (hw : width = 32 ∨ width = 64) (h : 0 ≤ x ∧ x ≤ 18446744073709551615) (w : World) :
    Calls Tryd.prog 173 #[.int .i64 width, .int .u64 x] w fun e w' => e = .returned (.int .u64 (cutM (MW width) x)) ∧ w = w' := by
  rcases hw with rfl | rfl
  · go_enter Tryd.func173, Tryd.ntmps173
    go_wp2_with (first | (go_at_call 32; refine (of32 _ h _).mono ?_; rintro e w' ⟨rfl, rfl⟩) | (go_at_call 103; refine (up32 _ (cutM_in32 _) _).mono ?_; rintro e w' ⟨rfl, rfl⟩))
    go_ret
    exact ⟨rfl, rfl⟩
  · go_enter Tryd.func173, Tryd.ntmps173
    go_wp2
    go_ret
    exact ⟨ret_int (w_of64 x h), rfl⟩
theorem rcut (width x : Int) (hw : width = 32 ∨ width = 64) (h : 0 ≤ x ∧ x ≤ 18446744073709551615) (w : World) :
    Calls Tryd.prog 156 #[.int .i64 width, .int .u64 x] w fun e w' => e = .returned (.int .u64 (cutM (MW width) x)) ∧ w = w' := by
  rcases hw with rfl | rfl
  · go_enter Tryd.func156, Tryd.ntmps156
    go_wp2
    go_ret
    exact ⟨rfl, rfl⟩
  · go_enter Tryd.func156, Tryd.ntmps156
    go_wp2
    go_ret
    exact ⟨ret_int (w_of64 x h), rfl⟩
theorem rplus (width a n : Int) (hw : width = 32 ∨ width = 64) (ha : 0 ≤ a ∧ a ≤ 18446744073709551615) (w : World) :
    Calls Tryd.prog 193 #[.int .i64 width, .int .u64 a, .int .i64 n] w fun e w' => e = .returned (.int .u64 (addM (MW width) a n)) ∧ w = w' := by
  go_enter Tryd.func193, Tryd.ntmps193
  go_wp2_with (go_at_call 156; refine (rcut _ _ hw (by simp only [u64_wrap]; omega) _).mono ?_; rintro e w' ⟨rfl, rfl⟩)
  go_ret
  exact ⟨ret_int (by rcases hw with rfl | rfl <;> simp only [u64_wrap, cutM, addM, MW, M32, M64] <;> simp <;> omega), rfl⟩
end Go.Proofs.YtnkmlopjinihiaaDoor
