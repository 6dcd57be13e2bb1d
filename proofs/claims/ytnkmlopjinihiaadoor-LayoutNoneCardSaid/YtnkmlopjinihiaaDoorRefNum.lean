/- Contracts of the references on numbers: sakiaref02 (slots and rounds), sakiaref10.Start. -/
import Derived.Test.YtnkmlopjinihiaaDoorWide
import Derived.Test.YtnkmlopjinihiaaDoorBase
import Derived.Test.YtnkmlopjinihiaaDoorPlain
namespace Go.Proofs.YtnkmlopjinihiaaDoor
open Go.RowKit
set_option linter.unusedVariables false
set_option linter.unusedSimpArgs false
set_option maxHeartbeats 2000000

theorem first_hit {M c s x k : Int} (hM : M = M32 ∨ M = M64) (hc : Cap2 c) (hs : 0 ≤ s ∧ s < c) (hk : 0 ≤ k ∧ k < c) : slotI c (addM M x k) = s ↔ k = (s - x) % c := by
  rcases hM with rfl | rfl <;> rcases hc with rfl | rfl | rfl | rfl | rfl | rfl <;> simp only [slotI, addM, M32, M64] <;> omega
theorem MW2 {w : Int} (h : w = 32 ∨ w = 64) : MW w = M32 ∨ MW w = M64 := by rcases h with rfl | rfl; exact .inl rfl; exact .inr rfl
theorem inM_u {M x : Int} (hM : M = M32 ∨ M = M64) (h : InM M x) : 0 ≤ x ∧ x ≤ 18446744073709551615 := by
  by_cases h1 : M = M32
  · subst h1; unfold InM M32 at h; omega
  · have h2 := hM.resolve_left h1; subst h2; unfold InM M64 at h; omega
theorem rslotI (c x : Int) (hc : Cap2 c) (hx : 0 ≤ x ∧ x ≤ 18446744073709551615) (w : World) : Calls Tryd.prog 194 #[.int .i64 c, .int .u64 x] w fun e w' => e = .returned (.int .i64 (slotI c x)) ∧ w = w' := by
  have hb := hc.bd
  have hn : (c == 0) = false := by simp; omega
  have hw : IntKind.u64.wrap c = c := w_conv64 c hb
  have hs := Int.emod_nonneg x (b := c) (by omega)
  have hl := Int.emod_lt_of_pos x (b := c) (by omega)
  have hw2 : wrap64 (x % c) = x % c := wrap64_id (by omega)
  go_enter Tryd.func194, Tryd.ntmps194
  go_wp2_with fail
  go_ret
  exact ⟨rfl, rfl⟩
theorem rroundI (c x : Int) (hc : Cap2 c) (hx : 0 ≤ x ∧ x ≤ 18446744073709551615) (w : World) : Calls Tryd.prog 195 #[.int .i64 c, .int .u64 x] w fun e w' => e = .returned (.int .u64 (roundI c x)) ∧ w = w' := by
  have hb := hc.bd
  have hn : (c == 0) = false := by simp; omega
  have hw : IntKind.u64.wrap c = c := w_conv64 c hb
  go_enter Tryd.func195, Tryd.ntmps195
  go_wp2_with fail
  go_ret
  exact ⟨rfl, rfl⟩
theorem rfirstI (width c s x : Int) (hw : width = 32 ∨ width = 64) (hc : Cap2 c) (hs : 0 ≤ s ∧ s < c) (hx : 0 ≤ x ∧ x ≤ 18446744073709551615) (w : World) : Calls Tryd.prog 157 #[.int .i64 width, .int .i64 c, .int .i64 s, .int .u64 x] w fun e w' => e = .returned (.int .u64 (firstI (MW width) c s x)) ∧ w = w' := by
  have hb := hc.bd
  have hM := MW2 hw
  have HC := Lib.hid hc
  have HX := Lib.hid hx
  have HW := Lib.hid hw
  have HM := Lib.hid hM
  have hd0 := Int.emod_nonneg (s - x) (b := c) (by omega)
  have hd1 := Int.emod_lt_of_pos (s - x) (b := c) (by omega)
  clear hx hw hM hc
  go_enter Tryd.func157, Tryd.ntmps157
  go_wp2_with fail
  go_loop [9] (fun i => ∃ k : Nat, i = .int .i64 k ∧ (k : Int) ≤ (s - x) % c) (fun i => c.toNat - (intOf i).toNat)
  case atStart => exact ⟨0, rfl, by omega⟩
  case round =>
    obtain ⟨k, rfl, hk⟩ := hrel
    have hkc : (k : Int) < c := by omega
    by_cases hh : (k : Int) = (s - x) % c
    · have he : slotI c (addM (MW width) x k) = s := (first_hit HM.out HC.out hs ⟨by omega, hkc⟩).2 hh
      have HH := Lib.hid hh
      have HE := Lib.hid he
      clear hh he
      go_wp2_with (first
        | (go_at_call 193; refine (rplus _ _ _ HW.out HX.out _).mono ?_; rintro e w' ⟨rfl, rfl⟩)
        | (go_at_call 194; refine (rslotI _ _ HC.out (inM_u HM.out (by rcases HM.out with h | h <;> rw [h]; exact addM_in32 _ _; exact addM_in64 _ _)) _).mono ?_; rintro e w' ⟨rfl, rfl⟩; rw [HE.out]))
      go_ret
      exact ⟨ret_int (by unfold firstI; rw [HH.out]), rfl⟩
    · have he : ¬ slotI c (addM (MW width) x k) = s := fun e => hh ((first_hit HM.out HC.out hs ⟨by omega, hkc⟩).1 e)
      have heb : (slotI c (addM (MW width) x k) == s) = false := by simp [he]
      have HH := Lib.hid hh
      clear hh he
      go_wp2_with (first
        | (go_at_call 193; refine (rplus _ _ _ HW.out HX.out _).mono ?_; rintro e w' ⟨rfl, rfl⟩)
        | (go_at_call 194; refine (rslotI _ _ HC.out (inM_u HM.out (by rcases HM.out with h | h <;> rw [h]; exact addM_in32 _ _; exact addM_in64 _ _)) _).mono ?_; rintro e w' ⟨rfl, rfl⟩))
      go_round
      case rel => exact ⟨k + 1, by go_num, by have := HH.out; omega⟩
      case measure => simp only [intOf]; omega
theorem raheadI (width c s x : Int) (hw : width = 32 ∨ width = 64) (hc : Cap2 c) (hs : 0 ≤ s ∧ s < c) (hx : 0 ≤ x ∧ x ≤ 18446744073709551615) (w : World) : Calls Tryd.prog 158 #[.int .i64 width, .int .i64 c, .int .i64 s, .int .u64 x] w fun e w' => e = .returned (.int .u64 (aheadI (MW width) c s x)) ∧ w = w' := by
  have hM := MW2 hw
  have hin : ∀ a n, 0 ≤ addM (MW width) a n ∧ addM (MW width) a n ≤ 18446744073709551615 := fun a n => inM_u hM (by rcases hM with h | h <;> rw [h]; exact addM_in32 _ _; exact addM_in64 _ _)
  have hb := hc.bd
  have hwn : wrap64 (-c) = -c := wrap64_id (by omega)
  have HC := Lib.hid hc
  have HX := Lib.hid hx
  have HW := Lib.hid hw
  have HIN := Lib.hid hin
  clear hx hw hM hc hin
  go_enter Tryd.func158, Tryd.ntmps158
  go_wp2_with (first
    | (go_at_call 157; refine (rfirstI _ _ _ _ HW.out HC.out hs HX.out _).mono ?_; rintro e w' ⟨rfl, rfl⟩)
    | (go_at_call 193; refine (rplus _ _ _ HW.out (HIN.out _ _) _).mono ?_; rintro e w' ⟨rfl, rfl⟩)
    | (go_at_call 195; refine (rroundI _ _ HC.out (HIN.out _ _) _).mono ?_; rintro e w' ⟨rfl, rfl⟩))
  go_ret
  exact ⟨rfl, rfl⟩
theorem rstartI (c : Cf) (hw : c.width = 32 ∨ c.width = 64) (hst : 0 ≤ c.start ∧ c.start ≤ 18446744073709551615) (w : World) : Calls Tryd.prog 86 #[.agg c.vs.toArray] w fun e w' => e = .returned (.int .u64 (cutM (MW c.width) c.start)) ∧ Below w.heap.size w w' := by
  obtain ⟨variant, width, cap, producers, start, ua, un, uc⟩ := c
  unfold Cf.vs
  dsimp only at *
  have HW := Lib.hid hw
  have HST := Lib.hid hst
  clear hw hst
  go_enter Tryd.func86, Tryd.ntmps86
  go_wp2_with (go_at_call 156; refine (rcut _ _ HW.out HST.out _).mono ?_; rintro e w' ⟨rfl, rfl⟩)
  go_ret
  exact ⟨rfl, (Below.refl _ _).alloc (Nat.le_refl _) _⟩
end Go.Proofs.YtnkmlopjinihiaaDoor
