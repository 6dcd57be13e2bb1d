/- Contracts of pair's functions, for small counts: their floats are told by the kernel's run. -/
import Derived.Test.YthnmpndofkgppaaOwn
import Derived.Test.YthnmpndofkgppaaProg
import Derived.Laws.FloatArith
import Derived.Laws.Cover3
namespace Go.Proofs.Ythnmpndofkgppaa
open Go.RowKit
set_option linter.unusedVariables false
set_option linter.unusedSimpArgs false
set_option maxHeartbeats 2000000

/-- the bits of a small whole number -/
def fl (n : Nat) : Nat := floatOfInt .f64 (n : Int)
def flOk (n : Nat) : Bool :=
  decide ((FloatKind.f64.format.order (fl n) 14010698440749613056 == some .gt || FloatKind.f64.format.order (fl n) 14010698440749613056 == some .eq) = true) &&
  decide ((FloatKind.f64.format.order (fl n) 4787326403894837248 == some .lt || FloatKind.f64.format.order (fl n) 4787326403894837248 == some .eq) = true) &&
  decide (floatToIntVal .f64 (fl n) .i64 = some (n : Int)) && decide ((FloatKind.f64.format.order (fl n) (fl n) == some .eq) = true) &&
  decide (floatBits .add .f64 (fl n) (fl 0) = some (fl n)) && decide (floatBits .add .f64 (fl 0) (fl n) = some (fl n)) && decide (floatBits .add .f64 (fl n) (fl 1) = some (fl (n + 1)))
theorem fl_all : (List.range 210).all flOk = true := by decide +kernel
theorem fl_ok (n : Nat) (h : n < 210) : flOk n = true := List.all_eq_true.1 fl_all n (List.mem_range.2 h)
theorem fl_zero : fl 0 = 0 := by decide +kernel
structure FlOk (n : Nat) : Prop where
  lo : (FloatKind.f64.format.order (fl n) 14010698440749613056 == some .gt || FloatKind.f64.format.order (fl n) 14010698440749613056 == some .eq) = true
  hi : (FloatKind.f64.format.order (fl n) 4787326403894837248 == some .lt || FloatKind.f64.format.order (fl n) 4787326403894837248 == some .eq) = true
  int : floatToIntVal .f64 (fl n) .i64 = some (n : Int)
  eq : (FloatKind.f64.format.order (fl n) (fl n) == some .eq) = true
  add0 : floatBits .add .f64 (fl n) (fl 0) = some (fl n)
  zadd : floatBits .add .f64 (fl 0) (fl n) = some (fl n)
  add1 : floatBits .add .f64 (fl n) (fl 1) = some (fl (n + 1))
theorem flP (n : Nat) (h : n < 210) : FlOk n := by
  have := fl_ok n h
  unfold flOk at this
  simp only [Bool.and_eq_true, decide_eq_true_eq] at this
  obtain ⟨⟨⟨⟨⟨⟨h1, h2⟩, h3⟩, h4⟩, h5⟩, h6⟩, h7⟩ := this
  exact ⟨h1, h2, h3, h4, h5, h6, h7⟩
theorem pwithin (n : Nat) (h : n < 210) (x : Nat) (hx : fl n = x) (w : World) : Calls Try.prog 105 #[.float .f64 x] w fun e w' => e = .returned (.bool true) ∧ w = w' := by
  obtain ⟨h1, h2, h3, h4, h5, h6, h7⟩ := flP n h
  have h8 : floatOfInt .f64 (n : Int) = x := hx
  rw [hx] at h1 h2 h3 h4
  have hc : ∀ w, (convert 114 3 (.float .f64 x)).run Try.prog w = .ok (.int .i64 (n : Int)) w := fun w => run_convert_float_int w _ _ _ _ _ _ (by kernel_rfl) Try.underlying3 h3
  clear h5 h6 h7 h3 hx
  go_enter Try.func105, Try.ntmps105
  go_wp2_with fail
  go_ret
  exact ⟨rfl, rfl⟩
/-- the bits of a pair of small counts -/
structure PrIs (a b x y : Nat) : Prop where
  ha : a < 210
  hb : b < 210
  hx : fl a = x
  hy : fl b = y
theorem pWhole {a b x y : Nat} (h : PrIs a b x y) (w : World) : Calls Try.prog 89 #[.complex .f64 x y] w fun e w' => e = .returned (.bool true) ∧ w = w' := by
  have HW := Lib.hid (show ∀ z w, z = x ∨ z = y → Calls Try.prog 105 #[.float .f64 z] w fun e w' => e = .returned (.bool true) ∧ w = w' by
    intro z w hz
    rcases hz with rfl | rfl
    · exact pwithin a h.ha _ h.hx w
    · exact pwithin b h.hb _ h.hy w)
  clear h
  go_enter Try.func89, Try.ntmps89
  go_wp2_with (go_at_call 105; refine (HW.out _ _ (by simp)).mono ?_; rintro e w' ⟨rfl, rfl⟩)
  go_ret
  exact ⟨rfl, rfl⟩
theorem pFirst {a b x y : Nat} (h : PrIs a b x y) (w : World) : Calls Try.prog 106 #[.complex .f64 x y] w fun e w' => e = .returned (.int .i64 a) ∧ w = w' := by
  have hc : ∀ w, (convert 114 3 (.float .f64 x)).run Try.prog w = .ok (.int .i64 (a : Int)) w := fun w => run_convert_float_int w _ _ _ _ _ _ (by kernel_rfl) Try.underlying3 (h.hx ▸ (flP a h.ha).int)
  go_enter Try.func106, Try.ntmps106
  go_wp2_with (go_at_call 89; refine (pWhole h _).mono ?_; rintro e w' ⟨rfl, rfl⟩)
  go_ret
  exact ⟨rfl, rfl⟩
theorem pSecond {a b x y : Nat} (h : PrIs a b x y) (w : World) : Calls Try.prog 59 #[.complex .f64 x y] w fun e w' => e = .returned (.int .i64 b) ∧ w = w' := by
  have hc : ∀ w, (convert 114 3 (.float .f64 y)).run Try.prog w = .ok (.int .i64 (b : Int)) w := fun w => run_convert_float_int w _ _ _ _ _ _ (by kernel_rfl) Try.underlying3 (h.hy ▸ (flP b h.hb).int)
  go_enter Try.func59, Try.ntmps59
  go_wp2_with (go_at_call 89; refine (pWhole h _).mono ?_; rintro e w' ⟨rfl, rfl⟩)
  go_ret
  exact ⟨rfl, rfl⟩
theorem pcount (n : Nat) (h : n < 210) (w : World) : Calls Try.prog 107 #[.int .i64 n] w fun e w' => e = .returned (.bool true) ∧ w = w' := by
  have h1 : (-1099511627776 : Int) ≤ n := by omega
  have h2 : (n : Int) ≤ 1099511627776 := by omega
  go_enter Try.func107, Try.ntmps107
  go_wp2_with fail
  go_ret
  exact ⟨rfl, rfl⟩
theorem pOf {a b x y : Nat} (h : PrIs a b x y) (w : World) : Calls Try.prog 91 #[.int .i64 a, .int .i64 b] w fun e w' => e = .returned (.complex .f64 x y) ∧ w = w' := by
  have h1 : floatOfInt .f64 (a : Int) = x := h.hx
  have h2 : floatOfInt .f64 (b : Int) = y := h.hy
  have ha := h.ha
  have hb := h.hb
  clear h
  generalize hA : (a : Int) = A at *
  generalize hB : (b : Int) = B at *
  have HC := Lib.hid (show ∀ z w, z = A ∨ z = B → Calls Try.prog 107 #[.int .i64 z] w fun e w' => e = .returned (.bool true) ∧ w = w' by
    intro z w hz
    rcases hz with rfl | rfl
    · exact hA ▸ pcount a ha w
    · exact hB ▸ pcount b hb w)
  clear hA hB ha hb
  go_enter Try.func91, Try.ntmps91
  go_wp2_with (go_at_call 107; refine (HC.out _ _ (by simp)).mono ?_; rintro e w' ⟨rfl, rfl⟩)
  go_ret
  exact ⟨rfl, rfl⟩
theorem pclean {a b x y : Nat} (h : PrIs a b x y) (w : World) : Calls Try.prog 90 #[.complex .f64 x y] w fun e w' => e = .returned (.complex .f64 x y) ∧ w = w' := by
  go_enter Try.func90, Try.ntmps90
  go_wp2_with (first
    | (go_at_call 106; refine (pFirst h _).mono ?_; rintro e w' ⟨rfl, rfl⟩)
    | (go_at_call 59; refine (pSecond h _).mono ?_; rintro e w' ⟨rfl, rfl⟩)
    | (go_at_call 91; refine (pOf h _).mono ?_; rintro e w' ⟨rfl, rfl⟩))
  go_ret
  exact ⟨rfl, rfl⟩
theorem run_add_complex {P : Program} (w : World) (t : TypeId) (a b c d r s : Nat) (h1 : floatBits .add .f64 a c = some r) (h2 : floatBits .add .f64 b d = some s) : (binOp .add t (.complex .f64 a b) (.complex .f64 c d)).run P w = .ok (.complex .f64 r s) w := by
  simp only [floatBits] at h1 h2
  simp [binOp, Op.complexOp, Op.Complex.arith, Op.floatArith, h1, h2]
/-- a count of accesses and one more of them -/
theorem pSum {a b c d x y u v p q : Nat} (h1 : PrIs a b x y) (h2 : PrIs c d u v) (h3 : PrIs (a + c) (b + d) p q) (hcd : c + d = 1) (g cap : Nat) (w : World) (hc0 : w.cell? ⟨g, 0, none⟩ = some (.complex .f64 x y)) (hc1 : w.cell? ⟨g, 1, none⟩ = some (.complex .f64 u v)) :
    Calls Try.prog 57 #[.slice (some ⟨g, 0, none⟩) 2 cap] w fun e w' => e = .returned (.complex .f64 p q) ∧ w = w' := by
  have hz : fl 0 = 0 := fl_zero
  have e1 : ∀ w, (binOp .add 58 (.complex .f64 0 0) (.complex .f64 x y)).run Try.prog w = .ok (.complex .f64 x y) w := fun w => by
    have i1 := (flP a h1.ha).zadd
    have i2 := (flP b h1.hb).zadd
    rw [h1.hx, hz] at i1
    rw [h1.hy, hz] at i2
    exact run_add_complex w _ _ _ _ _ _ _ i1 i2
  have e2 : ∀ w, (binOp .add 58 (.complex .f64 x y) (.complex .f64 u v)).run Try.prog w = .ok (.complex .f64 p q) w := fun w => by
    refine run_add_complex w _ _ _ _ _ _ _ ?_ ?_
    · rw [← h1.hx, ← h2.hx, ← h3.hx]
      by_cases h : c = 0
      · subst h; exact (flP a h1.ha).add0
      · obtain rfl : c = 1 := by omega
        exact (flP a h1.ha).add1
    · rw [← h1.hy, ← h2.hy, ← h3.hy]
      by_cases h : d = 0
      · subst h; exact (flP b h1.hb).add0
      · obtain rfl : d = 1 := by omega
        exact (flP b h1.hb).add1
  have H1 := Lib.hid h1
  have H2 := Lib.hid h2
  have H3 := Lib.hid h3
  have HW := Lib.hid (show ∀ z1 z2 w, (z1 = u ∧ z2 = v) ∨ (z1 = p ∧ z2 = q) → Calls Try.prog 89 #[.complex .f64 z1 z2] w fun e w' => e = .returned (.bool true) ∧ w = w' by
    intro z1 z2 w hz
    rcases hz with ⟨rfl, rfl⟩ | ⟨rfl, rfl⟩
    · exact pWhole h2 w
    · exact pWhole h3 w)
  clear h1 h2 h3 hz hcd
  go_enter Try.func57, Try.ntmps57
  go_wp2_with fail
  go_loop [8, 3] (fun i s => (i = .int .i64 0 ∧ s = .complex .f64 0 0) ∨ (i = .int .i64 1 ∧ s = .complex .f64 x y) ∨ (i = .int .i64 2 ∧ s = .complex .f64 p q)) (fun i _ => 2 - (intOf i).toNat)
  case atStart => exact .inl ⟨rfl, rfl⟩
  case round =>
    rcases hrel with ⟨rfl, rfl⟩ | ⟨rfl, rfl⟩ | ⟨rfl, rfl⟩
    · go_wp2_with (first | (go_at_call 89; refine (pWhole H1.out _).mono ?_; rintro e w' ⟨rfl, rfl⟩))
      go_round
      case rel => exact .inr (.inl ⟨rfl, rfl⟩)
      case measure => simp only [intOf]; omega
    · go_wp2_with (first | (go_at_call 89; refine (HW.out _ _ _ (by simp)).mono ?_; rintro e w' ⟨rfl, rfl⟩))
      go_round
      case rel => exact .inr (.inr ⟨rfl, rfl⟩)
      case measure => simp only [intOf]; omega
    · go_wp2_with (first | (go_at_call 90; refine (pclean H3.out _).mono ?_; rintro e w' ⟨rfl, rfl⟩))
      go_ret
      exact ⟨rfl, rfl⟩
/-- what an access of a kind counts -/
def lookK (k : Int) : Bool := decide (k = 1 ∨ k = 5 ∨ k = 6)
theorem bweight (k : Int) {x y : Nat} (h : PrIs (if lookK k then 1 else 0) (if lookK k then 0 else 1) x y) (w : World) : Calls Try.prog 58 #[.int .i64 k] w fun e w' => e = .returned (.complex .f64 x y) ∧ w = w' := by
  unfold lookK at h
  by_cases h1 : k = 1
  · subst h1
    have H : PrIs 1 0 x y := h
    clear h
    go_enter Try.func58, Try.ntmps58
    go_wp2_with (go_at_call 91; refine (pOf H _).mono ?_; rintro e w' ⟨rfl, rfl⟩)
    go_ret
    exact ⟨rfl, rfl⟩
  · by_cases h5 : k = 5
    · subst h5
      have H : PrIs 1 0 x y := h
      clear h
      go_enter Try.func58, Try.ntmps58
      go_wp2_with (go_at_call 91; refine (pOf H _).mono ?_; rintro e w' ⟨rfl, rfl⟩)
      go_ret
      exact ⟨rfl, rfl⟩
    · by_cases h6 : k = 6
      · subst h6
        have H : PrIs 1 0 x y := h
        clear h
        go_enter Try.func58, Try.ntmps58
        go_wp2_with (go_at_call 91; refine (pOf H _).mono ?_; rintro e w' ⟨rfl, rfl⟩)
        go_ret
        exact ⟨rfl, rfl⟩
      · rw [show decide (k = 1 ∨ k = 5 ∨ k = 6) = false by simp [h1, h5, h6]] at h
        have H : PrIs 0 1 x y := h
        clear h
        have b1 : (k == 1) = false := by simp [h1]
        have b5 : (k == 5) = false := by simp [h5]
        have b6 : (k == 6) = false := by simp [h6]
        go_enter Try.func58, Try.ntmps58
        go_wp2_with (go_at_call 91; refine (pOf H _).mono ?_; rintro e w' ⟨rfl, rfl⟩)
        go_ret
        exact ⟨rfl, rfl⟩
end Go.Proofs.Ythnmpndofkgppaa
