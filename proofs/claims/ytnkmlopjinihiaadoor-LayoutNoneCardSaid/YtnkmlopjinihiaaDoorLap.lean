/- Contracts of package lap, for the capacities that are made (2 to 64). -/
import Derived.Test.YtnkmlopjinihiaaDoorProg
import Derived.Test.YtnkmlopjinihiaaDoorBase
import Derived.Test.YtnkmlopjinihiaaDoorNum
namespace Go.Proofs.YtnkmlopjinihiaaDoor
open Go.RowKit
set_option linter.unusedVariables false
set_option linter.unusedSimpArgs false
set_option maxHeartbeats 400000

theorem lapright (c : Int) (hc : Cap2 c) (w : World) : Calls Tryd.prog 153 #[.int .i64 c] w fun e w' => e = .returned (.bool true) ∧ w = w' := by
  rcases hc with rfl | rfl | rfl | rfl | rfl | rfl
  all_goals
    go_enter Tryd.func153, Tryd.ntmps153
    go_wp2
    go_ret
    exact ⟨rfl, rfl⟩
theorem lapone (c : Int) (hc : Cap2 c) (w : World) : Calls Tryd.prog 201 #[.int .i64 c] w fun e w' => e = .returned (.int .i64 1) ∧ w = w' := by
  go_enter Tryd.func201, Tryd.ntmps201
  go_wp2_with (go_at_call 153; refine (lapright _ hc _).mono ?_; rintro e w' ⟨rfl, rfl⟩)
  go_ret
  exact ⟨rfl, rfl⟩
theorem lapthere (c s : Int) (hc : Cap2 c) (w : World) : Calls Tryd.prog 174 #[.int .i64 c, .int .i64 s] w fun e w' => e = .returned (.bool (decide (0 ≤ s ∧ s < c))) ∧ w = w' := by
  go_enter Tryd.func174, Tryd.ntmps174
  go_wp2_with (go_at_call 153; refine (lapright _ hc _).mono ?_; rintro e w' ⟨rfl, rfl⟩)
  all_goals go_ret
  all_goals exact ⟨ret_bool (by grind), rfl⟩
/-- where the loop stands: i is no power yet -/
theorem laplog (c : Int) (hc : Cap2 c) (w : World) : Calls Tryd.prog 200 #[.int .i64 c] w fun e w' => e = .returned (.int .i64 (logI c)) ∧ w = w' := by
  have hr := lapright c hc
  rcases hc with rfl | rfl | rfl | rfl | rfl | rfl
  all_goals
    have HR := Lib.hid hr
    clear hr
    go_enter Tryd.func200, Tryd.ntmps200
    go_wp2_with (go_at_call 153; refine (HR.out _).mono ?_; rintro e w' ⟨rfl, rfl⟩)
    refine wp_loop_rounds 7 ?_
    iterate 7 (try (rw [rounds_succ]; go_wp2_with fail))
    go_ret
    exact ⟨rfl, rfl⟩
theorem bandu32 (x : Int) (h : InM M32 x) : bits .and .u32 x 1 = x % 2 ∧ bits .and .u32 x 3 = x % 4 ∧ bits .and .u32 x 7 = x % 8 ∧ bits .and .u32 x 15 = x % 16 ∧ bits .and .u32 x 31 = x % 32 ∧ bits .and .u32 x 63 = x % 64 := by
  have hb := bd32 h
  obtain ⟨n, rfl⟩ := Int.eq_ofNat_of_zero_le hb.1
  have k := fun b hb2 => u32_and_nat n b (by omega) hb2
  refine ⟨(k 1 (by omega)).trans ?_, (k 3 (by omega)).trans ?_, (k 7 (by omega)).trans ?_, (k 15 (by omega)).trans ?_, (k 31 (by omega)).trans ?_, (k 63 (by omega)).trans ?_⟩
  · rw [nat_mask1]; omega
  · rw [nat_mask2]; omega
  · rw [nat_mask3]; omega
  · rw [nat_mask4]; omega
  · rw [nat_mask5]; omega
  · rw [nat_mask6]; omega
theorem bandu64 (x : Int) (h : InM M64 x) : bits .and .u64 x 1 = x % 2 ∧ bits .and .u64 x 3 = x % 4 ∧ bits .and .u64 x 7 = x % 8 ∧ bits .and .u64 x 15 = x % 16 ∧ bits .and .u64 x 31 = x % 32 ∧ bits .and .u64 x 63 = x % 64 := by
  have hb := bd64 h
  obtain ⟨n, rfl⟩ := Int.eq_ofNat_of_zero_le hb.1
  have k := fun b hb2 => bits_and_u64_nat n b (by omega) hb2
  refine ⟨(k 1 (by omega)).trans ?_, (k 3 (by omega)).trans ?_, (k 7 (by omega)).trans ?_, (k 15 (by omega)).trans ?_, (k 31 (by omega)).trans ?_, (k 63 (by omega)).trans ?_⟩
  · rw [nat_mask1]; omega
  · rw [nat_mask2]; omega
  · rw [nat_mask3]; omega
  · rw [nat_mask4]; omega
  · rw [nat_mask5]; omega
  · rw [nat_mask6]; omega
theorem lapslot32 (c x : Int) (hc : Cap2 c) (hx : InM M32 x) (w : World) : Calls Tryd.prog 183 #[.int .i64 c, .int .u32 x] w fun e w' => e = .returned (.int .i64 (slotI c x)) ∧ w = w' := by
  have hb := bd32 hx
  have hr := lapright c hc
  obtain ⟨b1, b2, b3, b4, b5, b6⟩ := bandu32 x hx
  rcases hc with rfl | rfl | rfl | rfl | rfl | rfl
  all_goals
    have HR := Lib.hid hr
    clear hr
    go_enter Tryd.func183, Tryd.ntmps183
    go_wp2_with (go_at_call 153; refine (HR.out _).mono ?_; rintro e w' ⟨rfl, rfl⟩)
    go_ret
    exact ⟨ret_int (by unfold slotI; first | rfl | (rw [wrap64_id (by omega)])), rfl⟩
theorem lapfirst32 (c s x : Int) (hc : Cap2 c) (hs : 0 ≤ s ∧ s < c) (hx : InM M32 x) (w : World) : Calls Tryd.prog 116 #[.int .i64 c, .int .i64 s, .int .u32 x] w fun e w' => e = .returned (.int .u32 (firstI M32 c s x)) ∧ w = w' := by
  have hb := bd32 hx
  have hcb := hc.bd
  have hr := fun w => (lapthere c s hc w).mono (R' := fun e w' => e = .returned (.bool true) ∧ w = w') (fun e w' h => ⟨h.1.trans (ret_bool (by simpa using hs)), h.2⟩)
  obtain ⟨b1, b2, b3, b4, b5, b6⟩ := bandu32 _ (w_sub32 s x)
  rcases hc with rfl | rfl | rfl | rfl | rfl | rfl
  all_goals
    have HR := Lib.hid hr
    clear hr
    go_enter Tryd.func116, Tryd.ntmps116
    go_wp2_with (go_at_call 174; refine (HR.out _).mono ?_; rintro e w' ⟨rfl, rfl⟩)
    go_ret
    exact ⟨ret_int (by simp only [firstI, addM, u64_wrap, M32, M64] <;> omega), rfl⟩
theorem lapround32 (c x : Int) (hc : Cap2 c) (hx : InM M32 x) (w : World) : Calls Tryd.prog 175 #[.int .i64 c, .int .u32 x] w fun e w' => e = .returned (.int .u32 (roundI c x)) ∧ ∃ n, w' = w.drewN n := by
  have hb := bd32 hx
  have hl := laplog c hc
  have ho := lapone c hc
  rcases hc with rfl | rfl | rfl | rfl | rfl | rfl
  all_goals
    simp only [logI, Int.reduceEq, ite_true, ite_false] at hl
    have HL := Lib.hid hl
    have HO := Lib.hid ho
    clear hl ho
    go_enter Tryd.func175, Tryd.ntmps175
    go_wp2_with fail
    go_quiet ((first | (go_at_call 200; exact quiet_left (HL.out _)) | (go_at_call 201; exact quiet_left (HO.out _))))
    go_wp2_with fail
    go_ret
    exact ⟨ret_int (by unfold roundI; rfl), ⟨_, rfl⟩⟩
theorem lapahead32 (c s x : Int) (hc : Cap2 c) (hs : 0 ≤ s ∧ s < c) (hx : InM M32 x) (w : World) : Calls Tryd.prog 117 #[.int .i64 c, .int .i64 s, .int .u32 x] w fun e w' => e = .returned (.int .u32 (aheadI M32 c s x)) ∧ ∃ n, w' = w.drewN n := by
  have hb := bd32 hx
  have hcb := hc.bd
  have hr := fun w => (lapthere c s hc w).mono (R' := fun e w' => e = .returned (.bool true) ∧ w = w') (fun e w' h => ⟨h.1.trans (ret_bool (by simpa using hs)), h.2⟩)
  have HR := Lib.hid hr
  clear hr
  have hcv := w_conv32 c hcb
  go_enter Tryd.func117, Tryd.ntmps117
  go_wp2_with (first | (go_at_call 174; refine (HR.out _).mono ?_; rintro e w' ⟨rfl, rfl⟩) | (go_at_call 116; refine (lapfirst32 c s x hc hs hx _).mono ?_; rintro e w' ⟨rfl, rfl⟩) | (go_at_call 175; refine (lapround32 c _ hc (w_sub32 _ _) _).mono ?_; rintro e w' ⟨rfl, nq, rfl⟩))
  go_ret
  exact ⟨ret_int (by simp only [aheadI, addM, u64_wrap, M32, M64] <;> first | rfl | (congr 1; omega) | omega), ⟨_, rfl⟩⟩
theorem lapfirst64 (c s x : Int) (hc : Cap2 c) (hs : 0 ≤ s ∧ s < c) (hx : InM M64 x) (w : World) : Calls Tryd.prog 118 #[.int .i64 c, .int .i64 s, .int .u64 x] w fun e w' => e = .returned (.int .u64 (firstI M64 c s x)) ∧ w = w' := by
  have hb := bd64 hx
  have hcb := hc.bd
  have hr := fun w => (lapthere c s hc w).mono (R' := fun e w' => e = .returned (.bool true) ∧ w = w') (fun e w' h => ⟨h.1.trans (ret_bool (by simpa using hs)), h.2⟩)
  obtain ⟨b1, b2, b3, b4, b5, b6⟩ := bandu64 _ (w_sub64 s x)
  rcases hc with rfl | rfl | rfl | rfl | rfl | rfl
  all_goals
    have HR := Lib.hid hr
    clear hr
    go_enter Tryd.func118, Tryd.ntmps118
    go_wp2_with (go_at_call 174; refine (HR.out _).mono ?_; rintro e w' ⟨rfl, rfl⟩)
    go_ret
    exact ⟨ret_int (by simp only [firstI, addM, u64_wrap, M32, M64] <;> omega), rfl⟩
theorem lapround64 (c x : Int) (hc : Cap2 c) (hx : InM M64 x) (w : World) : Calls Tryd.prog 176 #[.int .i64 c, .int .u64 x] w fun e w' => e = .returned (.int .u64 (roundI c x)) ∧ ∃ n, w' = w.drewN n := by
  have hb := bd64 hx
  have hl := laplog c hc
  have ho := lapone c hc
  rcases hc with rfl | rfl | rfl | rfl | rfl | rfl
  all_goals
    simp only [logI, Int.reduceEq, ite_true, ite_false] at hl
    have HL := Lib.hid hl
    have HO := Lib.hid ho
    clear hl ho
    go_enter Tryd.func176, Tryd.ntmps176
    go_wp2_with fail
    go_quiet ((first | (go_at_call 200; exact quiet_left (HL.out _)) | (go_at_call 201; exact quiet_left (HO.out _))))
    go_wp2_with fail
    go_ret
    exact ⟨ret_int (by unfold roundI; rfl), ⟨_, rfl⟩⟩
theorem lapahead64 (c s x : Int) (hc : Cap2 c) (hs : 0 ≤ s ∧ s < c) (hx : InM M64 x) (w : World) : Calls Tryd.prog 119 #[.int .i64 c, .int .i64 s, .int .u64 x] w fun e w' => e = .returned (.int .u64 (aheadI M64 c s x)) ∧ ∃ n, w' = w.drewN n := by
  have hb := bd64 hx
  have hcb := hc.bd
  have hr := fun w => (lapthere c s hc w).mono (R' := fun e w' => e = .returned (.bool true) ∧ w = w') (fun e w' h => ⟨h.1.trans (ret_bool (by simpa using hs)), h.2⟩)
  have HR := Lib.hid hr
  clear hr
  have hcv := w_conv64 c hcb
  go_enter Tryd.func119, Tryd.ntmps119
  go_wp2_with (first | (go_at_call 174; refine (HR.out _).mono ?_; rintro e w' ⟨rfl, rfl⟩) | (go_at_call 118; refine (lapfirst64 c s x hc hs hx _).mono ?_; rintro e w' ⟨rfl, rfl⟩) | (go_at_call 176; refine (lapround64 c _ hc (w_sub64 _ _) _).mono ?_; rintro e w' ⟨rfl, nq, rfl⟩))
  go_ret
  exact ⟨ret_int (by simp only [aheadI, addM, u64_wrap, M32, M64] <;> first | rfl | (congr 1; omega) | omega), ⟨_, rfl⟩⟩
end Go.Proofs.YtnkmlopjinihiaaDoor
