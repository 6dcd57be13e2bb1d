/- Plain numbers: counters of 32 and of 64 binary digits. No program, no memory. -/
import Derived.RowKit
import Derived.WalkKit
namespace Go.Proofs.YtnkmlopjinihiaaDoor
open Go.RowKit
theorem ret_int {k : IntKind} {a b : Int} (h : a = b) : Ending.returned (.int k a) = .returned (.int k b) := by rw [h]
theorem ret_bool {a b : Bool} (h : a = b) : Ending.returned (.bool a) = .returned (.bool b) := by rw [h]
theorem ret_pair {k : IntKind} {a b : Int} {p q : Bool} (h : a = b) (h' : p = q) : Ending.returned (.tuple #[.int k a, .bool p]) = .returned (.tuple #[.int k b, .bool q]) := by rw [h, h']

def M32 : Int := 4294967296
def M64 : Int := 18446744073709551616
/-- x is a counter below M. -/
def InM (M x : Int) : Prop := 0 ≤ x ∧ x < M
def cutM (M x : Int) : Int := x % M
def addM (M a n : Int) : Int := (a + n) % M
def sgM (M x : Int) : Int := if x < M / 2 then x else x - M
def difM (M a b : Int) : Int := sgM M ((a - b) % M)
/-- The M of a width of digits. -/
def MW (width : Int) : Int := if width = 32 then M32 else M64

theorem u64_wrap (x : Int) : IntKind.u64.wrap x = x % 18446744073709551616 := by simp [IntKind.wrap, IntKind.bits, IntKind.signed]
theorem u32_wrap (x : Int) : IntKind.u32.wrap x = x % 4294967296 := by simp [IntKind.wrap, IntKind.bits, IntKind.signed]
theorem bd32 {x : Int} (h : InM M32 x) : 0 ≤ x ∧ x ≤ 4294967295 := by unfold InM M32 at h; omega
theorem bd64 {x : Int} (h : InM M64 x) : 0 ≤ x ∧ x ≤ 18446744073709551615 := by unfold InM M64 at h; omega
theorem in32 {x : Int} (h : 0 ≤ x ∧ x ≤ 4294967295) : InM M32 x := by unfold InM M32; omega
theorem in64 {x : Int} (h : 0 ≤ x ∧ x ≤ 18446744073709551615) : InM M64 x := by unfold InM M64; omega
theorem addM_in32 (a n : Int) : InM M32 (addM M32 a n) := by unfold InM addM M32; omega
theorem addM_in64 (a n : Int) : InM M64 (addM M64 a n) := by unfold InM addM M64; omega
theorem cutM_in32 (a : Int) : InM M32 (cutM M32 a) := by unfold InM cutM M32; omega
theorem cutM_in64 (a : Int) : InM M64 (cutM M64 a) := by unfold InM cutM M64; omega
theorem sgM_bd32 {x : Int} (h : InM M32 x) : -2147483648 ≤ sgM M32 x ∧ sgM M32 x ≤ 2147483647 := by unfold InM M32 at h; unfold sgM M32; split <;> omega
theorem sgM_bd64 {x : Int} (h : InM M64 x) : -9223372036854775808 ≤ sgM M64 x ∧ sgM M64 x ≤ 9223372036854775807 := by unfold InM M64 at h; unfold sgM M64; split <;> omega
theorem difM_bd32 (a b : Int) : -2147483648 ≤ difM M32 a b ∧ difM M32 a b ≤ 2147483647 := sgM_bd32 (by unfold InM M32; omega)
theorem difM_bd64 (a b : Int) : -9223372036854775808 ≤ difM M64 a b ∧ difM M64 a b ≤ 9223372036854775807 := sgM_bd64 (by unfold InM M64; omega)
theorem difM_i64_32 (a b : Int) : -9223372036854775808 ≤ difM M32 a b ∧ difM M32 a b ≤ 9223372036854775807 := by have := difM_bd32 a b; omega

-- what the walk writes, and the plain functions
theorem w_of32 (x : Int) : x % 4294967296 = cutM M32 x := rfl
theorem w_of64 (x : Int) (h : 0 ≤ x ∧ x ≤ 18446744073709551615) : x = cutM M64 x := by unfold cutM M64; omega
theorem w_add32 (a n : Int) : (a + n % 4294967296) % 4294967296 = addM M32 a n := by unfold addM M32; omega
theorem w_add64 (a n : Int) : IntKind.u64.wrap (a + IntKind.u64.wrap n) = addM M64 a n := by simp only [u64_wrap]; unfold addM M64; omega
theorem w_sg32 (x : Int) (h : InM M32 x) : wrap32 x = sgM M32 x := by unfold InM M32 at h; unfold sgM M32 wrap32; split <;> omega
theorem w_sg64 (x : Int) (h : InM M64 x) : wrap64 x = sgM M64 x := by unfold InM M64 at h; unfold sgM M64 wrap64; split <;> omega
theorem w_sub32 (a b : Int) : InM M32 ((a - b) % 4294967296) := by unfold InM M32; omega
theorem w_sub64 (a b : Int) : InM M64 (IntKind.u64.wrap (a - b)) := by rw [u64_wrap]; unfold InM M64; omega
theorem w_dif32 (a b : Int) : sgM M32 ((a - b) % 4294967296) = difM M32 a b := rfl
theorem w_dif64 (a b : Int) : sgM M64 (IntKind.u64.wrap (a - b)) = difM M64 a b := by rw [u64_wrap]; rfl
theorem wrap64_id {x : Int} (h : -9223372036854775808 ≤ x ∧ x ≤ 9223372036854775807) : wrap64 x = x := by unfold wrap64; omega

theorem w_conv32 (c : Int) (h : 2 ≤ c ∧ c ≤ 64) : c % 4294967296 = c := by omega
theorem w_conv64 (c : Int) (h : 2 ≤ c ∧ c ≤ 64) : IntKind.u64.wrap c = c := by rw [u64_wrap]; omega

/-- how many positions have room -/
def spaceI (cap lead : Int) : Int := if lead ≤ 0 then max cap 0 else if cap ≤ lead then 0 else cap - lead
/-- the capacities that are made -/
def Cap2 (c : Int) : Prop := c = 2 ∨ c = 4 ∨ c = 8 ∨ c = 16 ∨ c = 32 ∨ c = 64
theorem Cap2.bd {c : Int} (h : Cap2 c) : 2 ≤ c ∧ c ≤ 64 := by unfold Cap2 at h; omega
def logI (c : Int) : Int := if c = 2 then 1 else if c = 4 then 2 else if c = 8 then 3 else if c = 16 then 4 else if c = 32 then 5 else 6
def slotI (cap pos : Int) : Int := pos % cap
def roundI (cap pos : Int) : Int := pos / cap
def firstI (M cap slot start : Int) : Int := addM M start ((slot - start) % cap)
def aheadI (M cap slot start : Int) : Int := roundI cap (addM M (firstI M cap slot start) (-cap))
theorem firstI_in32 (c s x : Int) : InM M32 (firstI M32 c s x) := addM_in32 _ _
theorem firstI_in64 (c s x : Int) : InM M64 (firstI M64 c s x) := addM_in64 _ _
theorem roundI_in {M c x : Int} (hc : Cap2 c) (h : InM M x) : InM M (roundI c x) := by
  have hb := hc.bd
  unfold InM roundI at *
  exact ⟨Int.ediv_nonneg h.1 (by omega), Int.lt_of_le_of_lt (Int.ediv_le_self _ h.1) h.2⟩
theorem aheadI_in32 {c : Int} (hc : Cap2 c) (s x : Int) : InM M32 (aheadI M32 c s x) := roundI_in hc (addM_in32 _ _)
theorem aheadI_in64 {c : Int} (hc : Cap2 c) (s x : Int) : InM M64 (aheadI M64 c s x) := roundI_in hc (addM_in64 _ _)
end Go.Proofs.YtnkmlopjinihiaaDoor
