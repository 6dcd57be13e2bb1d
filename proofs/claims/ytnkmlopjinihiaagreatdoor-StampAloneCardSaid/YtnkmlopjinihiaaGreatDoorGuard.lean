/- Which inputs a statement over configurations lets in; boards that are made for them. -/
import Derived.Test.YtnkmlopjinihiaaGreatDoorLocked
import Derived.Test.YtnkmlopjinihiaaGreatDoorMarkP
import Derived.Test.YtnkmlopjinihiaaGreatDoorTurnP
namespace Go.Proofs.YtnkmlopjinihiaaGreatDoor
open Go.RowKit
set_option linter.unusedVariables false
set_option linter.unusedSimpArgs false
set_option maxHeartbeats 2000000

def ShortUp (up : List (List Int)) : Prop := up.length ≤ 20 ∧ ∀ l ∈ up, l.length ≤ 20
instance (up : List (List Int)) : Decidable (ShortUp up) := by unfold ShortUp; infer_instance
/-- a board that was just made, for a configuration -/
theorem newBS_fit (c : Cf) {up : List (List Int)} (hok : CfOk c up) (hun : c.un = up.length) : (newBS (mkLay c)).Fit (MW c.width) := by
  have hlen := hok.up.len
  have ho := newBS_ok (l := mkLay c) (mkLay_bd (by omega) hok.cap) (by rw [mkLay_c]; exact hok.cap) (by have := mkLay_cells hok.cap; rw [mkLay_c]; exact this)
  rw [mkLay_c] at ho
  have hl : (newBS (mkLay c)).l = mkLay c := rfl
  have hlc : (newBS (mkLay c)).l.c = c := by rw [hl, mkLay_c]
  refine ⟨ho, by rw [hlc]; exact hl, by rw [hlc]; exact hok.cap, by rw [hlc]; exact hok.variant, by rw [hlc]; omega, by rw [hlc]⟩
theorem CfOk.ua {c : Cf} {up : List (List Int)} (h : CfOk c up) (ua : Option Addr) (uc : Nat) : CfOk { c with ua := ua, uc := uc } up := ⟨h.variant, h.width, h.cap, h.producers, h.one, h.up⟩
end Go.Proofs.YtnkmlopjinihiaaGreatDoor
