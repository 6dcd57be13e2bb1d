/- sakialaw12.BoardNone returns true for every input: of no board there is nothing. -/
import Derived.Test.YthnmpndofkgppaaBoardN
import Derived.Test.YthnmpndofkgppaaLive12
namespace Go.Proofs.Ythnmpndofkgppaa
open Go.RowKit
set_option linter.unusedVariables false
set_option linter.unusedSimpArgs false
set_option maxHeartbeats 4000000

theorem smallN12 (w : World) (t k c n o v : Int) :
    Calls Try.prog 17 #[.pointer none, .agg #[.int .i64 t, .int .i64 k, .int .i64 c, .int .i64 n, .int .u64 o, .int .u64 v]] w fun e w' => e = .returned (.tuple #[.int .u64 0, .bool false]) ∧ Below w.heap.size w w' := by
  by_cases h1 : k = 1
  · subst h1
    go_enter Try.func17, Try.ntmps17
    go_wp2_with (go_at_call 38; refine (bLoadN32 _ t c).mono ?_; rintro e w' ⟨rfl, rfl⟩)
    refine bodyPost_ret (v := .tuple #[.int .u64 0, .bool false]) ?_ rfl ?_
    · simp only [results, Try.results17]
      go_simp
    · exact ⟨rfl, (by repeat (with_reducible first | exact Below.refl _ _ | refine Below.drew ?_ | refine below_drewN ?_ _ | refine Below.alloc ?_ (by simp) _))⟩
  · have n1 : (k == 1) = false := by simp [h1]
    by_cases h2 : k = 2
    · subst h2
      go_enter Try.func17, Try.ntmps17
      go_wp2_with (go_at_call 39; refine (bStoreN32 _ t c _).mono ?_; rintro e w' ⟨rfl, rfl⟩)
      refine bodyPost_ret (v := .tuple #[.int .u64 0, .bool false]) ?_ rfl ?_
      · simp only [results, Try.results17]
        go_simp
      · exact ⟨rfl, (by repeat (with_reducible first | exact Below.refl _ _ | refine Below.drew ?_ | refine below_drewN ?_ _ | refine Below.alloc ?_ (by simp) _))⟩
    · have n2 : (k == 2) = false := by simp [h2]
      by_cases h3 : k = 3
      · subst h3
        go_enter Try.func17, Try.ntmps17
        go_wp2_with (go_at_call 40; refine (bAddN32 _ t c n).mono ?_; rintro e w' ⟨rfl, rfl⟩)
        refine bodyPost_ret (v := .tuple #[.int .u64 0, .bool false]) ?_ rfl ?_
        · simp only [results, Try.results17]
          go_simp
        · exact ⟨rfl, (by repeat (with_reducible first | exact Below.refl _ _ | refine Below.drew ?_ | refine below_drewN ?_ _ | refine Below.alloc ?_ (by simp) _))⟩
      · have n3 : (k == 3) = false := by simp [h3]
        by_cases h4 : k = 4
        · subst h4
          go_enter Try.func17, Try.ntmps17
          go_wp2_with (go_at_call 41; refine (bSwapN32 _ t c _ _).mono ?_; rintro e w' ⟨rfl, rfl⟩)
          refine bodyPost_ret (v := .tuple #[.int .u64 0, .bool false]) ?_ rfl ?_
          · simp only [results, Try.results17]
            go_simp
          · exact ⟨rfl, (by repeat (with_reducible first | exact Below.refl _ _ | refine Below.drew ?_ | refine below_drewN ?_ _ | refine Below.alloc ?_ (by simp) _))⟩
        · have n4 : (k == 4) = false := by simp [h4]
          by_cases h6 : k = 6
          · subst h6
            go_enter Try.func17, Try.ntmps17
            go_wp2_with (go_at_call 42; refine (bReadN32 _ t c).mono ?_; rintro e w' ⟨rfl, rfl⟩)
            refine bodyPost_ret (v := .tuple #[.int .u64 0, .bool false]) ?_ rfl ?_
            · simp only [results, Try.results17]
              go_simp
            · exact ⟨rfl, (by repeat (with_reducible first | exact Below.refl _ _ | refine Below.drew ?_ | refine below_drewN ?_ _ | refine Below.alloc ?_ (by simp) _))⟩
          · have n6 : (k == 6) = false := by simp [h6]
            by_cases h7 : k = 7
            · subst h7
              go_enter Try.func17, Try.ntmps17
              go_wp2_with (go_at_call 43; refine (bWriteN32 _ t c _).mono ?_; rintro e w' ⟨rfl, rfl⟩)
              refine bodyPost_ret (v := .tuple #[.int .u64 0, .bool false]) ?_ rfl ?_
              · simp only [results, Try.results17]
                go_simp
              · exact ⟨rfl, (by repeat (with_reducible first | exact Below.refl _ _ | refine Below.drew ?_ | refine below_drewN ?_ _ | refine Below.alloc ?_ (by simp) _))⟩
            · have n7 : (k == 7) = false := by simp [h7]
              by_cases h8 : k = 8
              · subst h8
                go_enter Try.func17, Try.ntmps17
                go_wp2_with (go_at_call 44; refine (bGetN32 _ t c).mono ?_; rintro e w' ⟨rfl, rfl⟩)
                refine bodyPost_ret (v := .tuple #[.int .u64 0, .bool false]) ?_ rfl ?_
                · simp only [results, Try.results17]
                  go_simp
                · exact ⟨rfl, (by repeat (with_reducible first | exact Below.refl _ _ | refine Below.drew ?_ | refine below_drewN ?_ _ | refine Below.alloc ?_ (by simp) _))⟩
              · have n8 : (k == 8) = false := by simp [h8]
                by_cases h9 : k = 9
                · subst h9
                  go_enter Try.func17, Try.ntmps17
                  go_wp2_with (go_at_call 45; refine (bSetN32 _ t c n).mono ?_; rintro e w' ⟨rfl, rfl⟩)
                  refine bodyPost_ret (v := .tuple #[.int .u64 0, .bool false]) ?_ rfl ?_
                  · simp only [results, Try.results17]
                    go_simp
                  · exact ⟨rfl, (by repeat (with_reducible first | exact Below.refl _ _ | refine Below.drew ?_ | refine below_drewN ?_ _ | refine Below.alloc ?_ (by simp) _))⟩
                · have n9 : (k == 9) = false := by simp [h9]
                  go_enter Try.func17, Try.ntmps17
                  go_wp2_with fail
                  refine bodyPost_ret (v := .tuple #[.int .u64 0, .bool false]) ?_ rfl ?_
                  · simp only [results, Try.results17]
                    go_simp
                  · exact ⟨rfl, (by repeat (with_reducible first | exact Below.refl _ _ | refine Below.drew ?_ | refine below_drewN ?_ _ | refine Below.alloc ?_ (by simp) _))⟩
theorem greatN12 (w : World) (t k c n o v : Int) :
    Calls Try.prog 18 #[.pointer none, .agg #[.int .i64 t, .int .i64 k, .int .i64 c, .int .i64 n, .int .u64 o, .int .u64 v]] w fun e w' => e = .returned (.tuple #[.int .u64 0, .bool false]) ∧ Below w.heap.size w w' := by
  by_cases h1 : k = 1
  · subst h1
    go_enter Try.func18, Try.ntmps18
    go_wp2_with (go_at_call 46; refine (bLoadN64 _ t c).mono ?_; rintro e w' ⟨rfl, rfl⟩)
    refine bodyPost_ret (v := .tuple #[.int .u64 0, .bool false]) ?_ rfl ?_
    · simp only [results, Try.results18]
      go_simp
    · exact ⟨rfl, (by repeat (with_reducible first | exact Below.refl _ _ | refine Below.drew ?_ | refine below_drewN ?_ _ | refine Below.alloc ?_ (by simp) _))⟩
  · have n1 : (k == 1) = false := by simp [h1]
    by_cases h2 : k = 2
    · subst h2
      go_enter Try.func18, Try.ntmps18
      go_wp2_with (go_at_call 47; refine (bStoreN64 _ t c _).mono ?_; rintro e w' ⟨rfl, rfl⟩)
      refine bodyPost_ret (v := .tuple #[.int .u64 0, .bool false]) ?_ rfl ?_
      · simp only [results, Try.results18]
        go_simp
      · exact ⟨rfl, (by repeat (with_reducible first | exact Below.refl _ _ | refine Below.drew ?_ | refine below_drewN ?_ _ | refine Below.alloc ?_ (by simp) _))⟩
    · have n2 : (k == 2) = false := by simp [h2]
      by_cases h3 : k = 3
      · subst h3
        go_enter Try.func18, Try.ntmps18
        go_wp2_with (go_at_call 48; refine (bAddN64 _ t c n).mono ?_; rintro e w' ⟨rfl, rfl⟩)
        refine bodyPost_ret (v := .tuple #[.int .u64 0, .bool false]) ?_ rfl ?_
        · simp only [results, Try.results18]
          go_simp
        · exact ⟨rfl, (by repeat (with_reducible first | exact Below.refl _ _ | refine Below.drew ?_ | refine below_drewN ?_ _ | refine Below.alloc ?_ (by simp) _))⟩
      · have n3 : (k == 3) = false := by simp [h3]
        by_cases h4 : k = 4
        · subst h4
          go_enter Try.func18, Try.ntmps18
          go_wp2_with (go_at_call 49; refine (bSwapN64 _ t c _ _).mono ?_; rintro e w' ⟨rfl, rfl⟩)
          refine bodyPost_ret (v := .tuple #[.int .u64 0, .bool false]) ?_ rfl ?_
          · simp only [results, Try.results18]
            go_simp
          · exact ⟨rfl, (by repeat (with_reducible first | exact Below.refl _ _ | refine Below.drew ?_ | refine below_drewN ?_ _ | refine Below.alloc ?_ (by simp) _))⟩
        · have n4 : (k == 4) = false := by simp [h4]
          by_cases h6 : k = 6
          · subst h6
            go_enter Try.func18, Try.ntmps18
            go_wp2_with (go_at_call 50; refine (bReadN64 _ t c).mono ?_; rintro e w' ⟨rfl, rfl⟩)
            refine bodyPost_ret (v := .tuple #[.int .u64 0, .bool false]) ?_ rfl ?_
            · simp only [results, Try.results18]
              go_simp
            · exact ⟨rfl, (by repeat (with_reducible first | exact Below.refl _ _ | refine Below.drew ?_ | refine below_drewN ?_ _ | refine Below.alloc ?_ (by simp) _))⟩
          · have n6 : (k == 6) = false := by simp [h6]
            by_cases h7 : k = 7
            · subst h7
              go_enter Try.func18, Try.ntmps18
              go_wp2_with (go_at_call 51; refine (bWriteN64 _ t c _).mono ?_; rintro e w' ⟨rfl, rfl⟩)
              refine bodyPost_ret (v := .tuple #[.int .u64 0, .bool false]) ?_ rfl ?_
              · simp only [results, Try.results18]
                go_simp
              · exact ⟨rfl, (by repeat (with_reducible first | exact Below.refl _ _ | refine Below.drew ?_ | refine below_drewN ?_ _ | refine Below.alloc ?_ (by simp) _))⟩
            · have n7 : (k == 7) = false := by simp [h7]
              by_cases h8 : k = 8
              · subst h8
                go_enter Try.func18, Try.ntmps18
                go_wp2_with (go_at_call 52; refine (bGetN64 _ t c).mono ?_; rintro e w' ⟨rfl, rfl⟩)
                refine bodyPost_ret (v := .tuple #[.int .u64 0, .bool false]) ?_ rfl ?_
                · simp only [results, Try.results18]
                  go_simp
                · exact ⟨rfl, (by repeat (with_reducible first | exact Below.refl _ _ | refine Below.drew ?_ | refine below_drewN ?_ _ | refine Below.alloc ?_ (by simp) _))⟩
              · have n8 : (k == 8) = false := by simp [h8]
                by_cases h9 : k = 9
                · subst h9
                  go_enter Try.func18, Try.ntmps18
                  go_wp2_with (go_at_call 53; refine (bSetN64 _ t c n).mono ?_; rintro e w' ⟨rfl, rfl⟩)
                  refine bodyPost_ret (v := .tuple #[.int .u64 0, .bool false]) ?_ rfl ?_
                  · simp only [results, Try.results18]
                    go_simp
                  · exact ⟨rfl, (by repeat (with_reducible first | exact Below.refl _ _ | refine Below.drew ?_ | refine below_drewN ?_ _ | refine Below.alloc ?_ (by simp) _))⟩
                · have n9 : (k == 9) = false := by simp [h9]
                  go_enter Try.func18, Try.ntmps18
                  go_wp2_with fail
                  refine bodyPost_ret (v := .tuple #[.int .u64 0, .bool false]) ?_ rfl ?_
                  · simp only [results, Try.results18]
                    go_simp
                  · exact ⟨rfl, (by repeat (with_reducible first | exact Below.refl _ _ | refine Below.drew ?_ | refine below_drewN ?_ _ | refine Below.alloc ?_ (by simp) _))⟩
theorem bnewZ32 (w : World) : Calls Try.prog 9 #[.agg #[.int .i64 0, .int .i64 0, .int .i64 0, .int .i64 0, .int .u64 0, .slice none 0 0, .int .i64 0, .int .i64 0, .int .i64 0, .int .i64 0, .int .i64 0, .int .i64 0, .int .i64 0, .int .i64 0]] w fun e w' => e = .returned (.pointer none) ∧ Below w.heap.size w w' := by
  go_enter Try.func9, Try.ntmps9
  go_wp2_with fail
  go_quiet (fail)
  go_wp2_with fail
  go_ret
  exact ⟨rfl, (by repeat (with_reducible first | exact Below.refl _ _ | refine Below.drew ?_ | refine below_drewN ?_ _ | refine Below.alloc ?_ (by simp) _))⟩
theorem bLayoutZ64 (w : World) : Calls Try.prog 23 #[.pointer none] w fun e w' => e = .returned (.agg #[.int .i64 0, .int .i64 0, .int .i64 0, .int .i64 0, .int .u64 0, .slice none 0 0, .int .i64 0, .int .i64 0, .int .i64 0, .int .i64 0, .int .i64 0, .int .i64 0, .int .i64 0, .int .i64 0]) ∧ Below w.heap.size w w' := bLayoutN64 w
theorem fld_cells0 (w : World) : (Instr.field 30 (.agg #[.int .i64 0, .int .i64 0, .int .i64 0, .int .i64 0, .int .u64 0, .slice none 0 0, .int .i64 0, .int .i64 0, .int .i64 0, .int .i64 0, .int .i64 0, .int .i64 0, .int .i64 0, .int .i64 0]) 8).run Try.prog w = .ok (.int .i64 0) w := by kernel_rfl
set_option maxRecDepth 100000 in
theorem boardNone_any (t k c n o v : Int) (w : World) :
    Calls Try.prog 4 #[.agg #[.int .i64 t, .int .i64 k, .int .i64 c, .int .i64 n, .int .u64 o, .int .u64 v]] w fun e w' => e = .returned (.bool true) ∧ Below w.heap.size w w' := by
  have hz : (FloatKind.f64.format.order 0 0 == some .eq) = true := by kernel_rfl
  have hf := fld_cells0
  go_enter Try.func4, Try.ntmps4
  go_wp2_with (first
    | (go_at_call 17; refine (smallN12 _ t k c n o v).mono ?_; rintro e w1 ⟨rfl, hb1⟩; have k1 := (Blk.new w 49 _).below hb1 (by simp); obtain ⟨a0, a1, a2, a3, a4, a5⟩ := blk_cells6 k1; have K1 := Lib.hid k1; clear k1; have HB1 := Lib.hid (below_new hb1); clear hb1)
    | (go_at_call 18; refine (greatN12 _ t k c n o v).mono ?_; rintro e w2 ⟨rfl, hb2⟩; have k2 := K1.out.below hb2 K1.out.lt; obtain ⟨b0, b1, b2, b3, b4, b5⟩ := blk_cells6 k2; have K2 := Lib.hid k2; clear k2; have HB2 := Lib.hid (HB1.out.trans (hb2.mono HB1.out.size)); clear hb2)
    | (go_at_call 9; refine (bnewZ32 _).mono ?_; rintro e w3 ⟨rfl, hb3⟩; have k3 := K2.out.below hb3 K2.out.lt; obtain ⟨d0, d1, d2, d3, d4, d5⟩ := blk_cells6 k3; clear k3; have HB3 := Lib.hid (HB2.out.trans (hb3.mono HB2.out.size)); clear hb3)
    | (go_at_call 16; refine (bLenN32 _).mono ?_; rintro e w' ⟨rfl, rfl⟩)
    | (go_at_call 19; refine (bLogN64 _).mono ?_; rintro e w' ⟨rfl, rfl⟩)
    | (go_at_call 20; refine (bPeekN32 _ _).mono ?_; rintro e w' ⟨rfl, rfl⟩)
    | (go_at_call 21; refine (bDataN64 _ _).mono ?_; rintro e w' ⟨rfl, rfl⟩)
    | (go_at_call 22; refine (bCostN32 _ _).mono ?_; rintro e w' ⟨rfl, rfl⟩)
    | (go_at_call 23; refine (bLayoutZ64 _).mono ?_; rintro e w4 ⟨rfl, hb4⟩; have HB4 := Lib.hid (HB3.out.trans (hb4.mono HB3.out.size)); clear hb4)
    | (go_at_call 24; refine (live12 _).mono ?_; rintro e w9 ⟨rfl, hb9⟩; have HB9 := Lib.hid (HB4.out.trans (hb9.mono HB4.out.size)); clear hb9))
  go_ret
  exact ⟨rfl, HB9.out⟩
end Go.Proofs.Ythnmpndofkgppaa
