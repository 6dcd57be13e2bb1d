/- words.Show of numbers below 100: the library's small numerals. -/
import Derived.Test.YtnkmlopjinihiaaDoorProg
import Derived.Test.YtnkmlopjinihiaaDoorBase
import Derived.Test.YtnkmlopjinihiaaDoorRefStr
import Derived.Shelf.Lays
import Derived.Shelf.Strconv.Itoa0
import Derived.Shelf.Strconv.Itoa1
namespace Go.Proofs.YtnkmlopjinihiaaDoor
open Go.RowKit Go.Shelf
set_option linter.unusedVariables false
set_option maxHeartbeats 2000000

theorem digL_dec (n : Nat) : Lib.decDigits n = digL n := by
  induction n using Nat.strongRecOn with
  | _ n ih =>
    unfold Lib.decDigits digL
    split
    · rfl
    · rw [ih (n / 10) (by omega)]
/-- this program's numbers for the shelf's 'small' (the record written by hand: the shelf's own command is barred in a claim) -/
def renS : Ren := ⟨fun n => if n = 283 then 210 else 0, fun n => if n = 3 then 3 else if n = 4 then 4 else 9, fun n => n⟩
theorem layS : Lays.n283 Tryd.prog renS where
  mixed := by kernel_rfl
  f283 := by kernel_rfl
  t3 := by kernel_rfl
  a3 := fun w => by kernel_rfl
  z3 := fun w => by kernel_rfl
  v3 := fun w => by kernel_rfl
  t4 := by kernel_rfl
  a4 := fun w => by kernel_rfl
  z4 := fun w => by kernel_rfl
  v4 := fun w => by kernel_rfl
  t9 := by kernel_rfl
  a9 := fun w => by kernel_rfl
  z9 := fun w => by kernel_rfl
  v9 := fun w => by kernel_rfl
theorem smallS (i : Nat) (h : i < 100) (w : World) :
    Calls Tryd.prog 210 #[.int .i64 i] w fun e w' => e = .returned (.string (strS (digL i))) ∧ w' = w := by
  have hs := Any.internal_strconv_small layS i h w
  rw [digL_dec] at hs
  exact hs
theorem fmtS (i : Nat) (h : i < 100) (w : World) :
    Calls Tryd.prog 206 #[.int .i64 i, .int .i64 10] w fun e w' => e = .returned (.string (strS (digL i))) ∧ w' = w := by
  have h0 : decide ((0 : Int) ≤ (i : Int)) = true := decide_eq_true (by omega)
  have h1 : decide ((i : Int) < 100) = true := decide_eq_true (by omega)
  have HS := Lib.hid (smallS i h)
  go_enter Tryd.func206, Tryd.ntmps206
  go_wp2_with (go_at_call 210; refine (HS.out _).mono ?_; rintro e w1 ⟨rfl, rfl⟩)
  go_ret
  exact ⟨rfl, rfl⟩
theorem itoS (i : Nat) (h : i < 100) (w : World) :
    Calls Tryd.prog 196 #[.int .i64 i] w fun e w' => e = .returned (.string (strS (digL i))) ∧ w' = w := by
  have HS := Lib.hid (fmtS i h)
  go_enter Tryd.func196, Tryd.ntmps196
  go_wp2_with (go_at_call 206; refine (HS.out _).mono ?_; rintro e w1 ⟨rfl, rfl⟩)
  go_ret
  exact ⟨rfl, rfl⟩
theorem itoaS (i : Nat) (h : i < 100) (w : World) :
    Calls Tryd.prog 159 #[.int .i64 i] w fun e w' => e = .returned (.string (strS (digL i))) ∧ w' = w := by
  have HS := Lib.hid (itoS i h)
  go_enter Tryd.func159, Tryd.ntmps159
  go_wp2_with (go_at_call 196; refine (HS.out _).mono ?_; rintro e w1 ⟨rfl, rfl⟩)
  go_ret
  exact ⟨rfl, rfl⟩
theorem wShow (i : Nat) (h : i < 100) (w : World) :
    Calls Tryd.prog 90 #[.int .i64 i] w fun e w' => e = .returned (.string (strS (digL i))) ∧ w' = w := by
  have HS := Lib.hid (itoaS i h)
  go_enter Tryd.func90, Tryd.ntmps90
  go_wp2_with (go_at_call 159; refine (HS.out _).mono ?_; rintro e w1 ⟨rfl, rfl⟩)
  go_ret
  exact ⟨rfl, rfl⟩
end Go.Proofs.YtnkmlopjinihiaaDoor
