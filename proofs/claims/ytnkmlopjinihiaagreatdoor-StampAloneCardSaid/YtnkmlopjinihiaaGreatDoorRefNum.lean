/- Contracts of the references on numbers: sakiaref02 (slots and rounds), sakiaref10.Start. -/
import Derived.Test.YtnkmlopjinihiaaGreatDoorWide
import Derived.Test.YtnkmlopjinihiaaGreatDoorBase
import Derived.Test.YtnkmlopjinihiaaGreatDoorPlain
namespace Go.Proofs.YtnkmlopjinihiaaGreatDoor
open Go.RowKit
set_option linter.unusedVariables false
set_option linter.unusedSimpArgs false
set_option maxHeartbeats 2000000

theorem first_hit {M c s x k : Int} (hM : M = M32 ∨ M = M64) (hc : Cap2 c) (hs : 0 ≤ s ∧ s < c) (hk : 0 ≤ k ∧ k < c) : slotI c (addM M x k) = s ↔ k = (s - x) % c := by
  rcases hM with rfl | rfl <;> rcases hc with rfl | rfl | rfl | rfl | rfl | rfl <;> simp only [slotI, addM, M32, M64] <;> omega
theorem MW2 {w : Int} (h : w = 32 ∨ w = 64) : MW w = M32 ∨ MW w = M64 := by rcases h with rfl | rfl; exact .inl rfl; exact .inr rfl
theorem inM_u {M x : Int} (hM : M = M32 ∨ M = M64) (h : InM M x) : 0 ≤ x ∧ x ≤ 18446744073709551615 := by
  by_cases h1 : M = M32
  · subst h1; unfold InM M32 at h; omega
  · have h2 := hM.resolve_left h1; subst h2; unfold InM M64 at h; omega
end Go.Proofs.YtnkmlopjinihiaaGreatDoor
