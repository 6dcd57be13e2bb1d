/- A board and one thread's registers: how they begin; turn's functions on them. -/
import Derived.Test.YthnmpndofkgppaaDoorGuard
import Derived.Test.YthnmpndofkgppaaDoorFrame
import Derived.Test.YthnmpndofkgppaaDoorTurn
namespace Go.Proofs.YthnmpndofkgppaaDoor
open Go.RowKit
set_option linter.unusedVariables false
set_option linter.unusedSimpArgs false
set_option maxHeartbeats 2000000

def bfP (T : TypeId) (p F : Nat) : BFP := { T := T, id := 1, fid := 2, p := p, fb := F, o := 0, t := 0, pre := [], post := [], fs := [{}], hne := by decide, ho := rfl, ht := by decide }
theorem bf_make {tB tW tA : TypeId} {kd : IntKind} {w0 w4 : World} {γ4 : Nat → Nat} {p : Nat} {B : BS} (hO : Old w0 w4 γ4) (hB : BoardAt tB tW tA kd w4 γ4 1 p B) (T : TypeId) (f : FrS) :
    ∃ γ5, Old w0 (w4.alloc (.cells (frsCs kd [] [f] []) T)) γ5 ∧ BFAt tB tW tA kd (bfP T p w4.heap.size) (w4.alloc (.cells (frsCs kd [] [f] []) T)) γ5 (w4.alloc (.cells (frsCs kd [] [f] []) T)) γ5 B f ∧ ∀ b, b < w4.heap.size → γ5 b = γ4 b := by
  have h0 : Fr NoId γ4 γ4 w4 (w4.alloc (.cells (frsCs kd [] [f] []) T)) := (Fr.refl _ _ _).alloc _
  have hr := h0.relabel (fun _ => 2)
  refine ⟨_, hO.fr hr (fun h => h), ⟨hB.fr hr (fun h => h), Blk.new _ _ _, ?_, Fr.refl _ _ _⟩, fun b hb => if_pos hb⟩
  show (if w4.heap.size < w4.heap.size then _ else 2) = 2
  rw [if_neg (by omega)]
/-- a board that New has made, and what was there -/
theorem new_old {tB tW : TypeId} {kd : IntKind} {l : Lay} {w0 W w' : World} {e : Ending} (tA : TypeId) (hW : Below w0.heap.size w0 W) (h : NewEnd tB tW kd l W e w') :
    ∃ p γ, e = .returned (.pointer (some ⟨p, 0, none⟩)) ∧ Below W.heap.size W w' ∧ W.heap.size ≤ p ∧ BoardAt tB tW tA kd w' γ 1 p (newBS l) ∧ Old w0 w' γ ∧ ∀ b, b < W.heap.size → γ b = 0 := by
  obtain ⟨p, rfl, hb, hp, hB⟩ := newAt tA h
  have hB2 := hB (fun _ => 0) 1
  have hO : Old w0 W (fun _ => 0) := ⟨hW, fun _ _ => rfl⟩
  exact ⟨p, Lab W (fun _ => 0) 1, rfl, hb, hp, hB2.1, hO.fr hB2.2 (fun h => h), fun b hb => if_pos hb⟩
end Go.Proofs.YthnmpndofkgppaaDoor
