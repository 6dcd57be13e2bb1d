/- gate's functions without a board, without cells, without a layout. -/
import Derived.Test.YtnkmlopjinihiaaDoorGate
import Derived.Test.YtnkmlopjinihiaaDoorLay
namespace Go.Proofs.YtnkmlopjinihiaaDoor
open Go.RowKit
set_option linter.unusedVariables false
set_option linter.unusedSimpArgs false
set_option maxHeartbeats 2000000

theorem gleastN32 (bv : Option Addr) (A : Option Addr) (n c : Nat) (h : bv = none ∨ n = 0) (w : World) :
    Calls Tryd.prog 34 #[.pointer bv, .slice A n c] w fun e w' => e = .returned (.int .u32 0) ∧ w = w' := by
  rcases h with rfl | rfl
  · go_enter Tryd.func34, Tryd.ntmps34
    go_wp2_with fail
    go_ret
    exact ⟨rfl, rfl⟩
  · cases bv with
    | none =>
      go_enter Tryd.func34, Tryd.ntmps34
      go_wp2_with fail
      go_ret
      exact ⟨rfl, rfl⟩
    | some a =>
      go_enter Tryd.func34, Tryd.ntmps34
      go_wp2_with fail
      go_ret
      exact ⟨rfl, rfl⟩
theorem gleastN64 (bv : Option Addr) (A : Option Addr) (n c : Nat) (h : bv = none ∨ n = 0) (w : World) :
    Calls Tryd.prog 42 #[.pointer bv, .slice A n c] w fun e w' => e = .returned (.int .u64 0) ∧ w = w' := by
  rcases h with rfl | rfl
  · go_enter Tryd.func42, Tryd.ntmps42
    go_wp2_with fail
    go_ret
    exact ⟨rfl, rfl⟩
  · cases bv with
    | none =>
      go_enter Tryd.func42, Tryd.ntmps42
      go_wp2_with fail
      go_ret
      exact ⟨rfl, rfl⟩
    | some a =>
      go_enter Tryd.func42, Tryd.ntmps42
      go_wp2_with fail
      go_ret
      exact ⟨rfl, rfl⟩
def layZ : Lay := ⟨⟨0, 0, 0, 0, 0, none, 0, 0⟩, 0, 0, 0, 0, 0, 0, 0, 0⟩
theorem layZ_bd : layZ.Bd := ⟨⟨Int.le_refl 0, show (0 : Int) ≤ 64 by decide⟩, Nat.zero_le _, ⟨show (-1 : Int) ≤ 0 by decide, show (0 : Int) ≤ 200 by decide⟩, ⟨Int.le_refl 0, show (0 : Int) ≤ 200 by decide⟩⟩
theorem endsZ (w : World) : Calls Tryd.prog 33 #[.agg #[.int .i64 0, .int .i64 0, .int .i64 0, .int .i64 0, .int .u64 0, .slice none 0 0, .int .i64 0, .int .i64 0, .int .i64 0, .int .i64 0, .int .i64 0, .int .i64 0, .int .i64 0, .int .i64 0]] w fun e w' => e = .returned (.slice none 0 0) ∧ Below w.heap.size w w' := by
  go_enter Tryd.func33, Tryd.ntmps33
  go_wp2_with fail
  go_ret
  exact ⟨rfl, (Below.refl _ _).alloc (Nat.le_refl _) _⟩
theorem upsZ (k : Int) (w : World) : Calls Tryd.prog 43 #[.agg #[.int .i64 0, .int .i64 0, .int .i64 0, .int .i64 0, .int .u64 0, .slice none 0 0, .int .i64 0, .int .i64 0, .int .i64 0, .int .i64 0, .int .i64 0, .int .i64 0, .int .i64 0, .int .i64 0], .int .i64 k] w fun e w' => e = .returned (.slice none 0 0) ∧ Below w.heap.size w w' := by
  have hgt := fun W => lgate layZ layZ_bd k W
  unfold Lay.vs layZ at hgt
  have HG := Lib.hid (fun W => (hgt W).mono (fun e w' hq => (show e = .returned (.int .i64 (-1)) ∧ Below W.heap.size W w' from ⟨hq.1.trans (ret_int (by unfold Lay.gate; dsimp only; rw [if_neg (by omega)])), hq.2⟩)))
  clear hgt
  go_enter Tryd.func43, Tryd.ntmps43
  go_wp2_with (go_at_call 24; refine (HG.out _).mono ?_; rintro e w1 ⟨rfl, hb1⟩)
  go_ret
  exact ⟨rfl, below_new hb1⟩
end Go.Proofs.YtnkmlopjinihiaaDoor
