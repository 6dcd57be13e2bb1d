/- A board and one thread's registers: how they begin; turn's functions on them. -/
import Derived.Test.YtnkmlopjinihiaaDoorGuard
import Derived.Test.YtnkmlopjinihiaaDoorFrame
import Derived.Test.YtnkmlopjinihiaaDoorTurn
namespace Go.Proofs.YtnkmlopjinihiaaDoor
open Go.RowKit
set_option linter.unusedVariables false
set_option linter.unusedSimpArgs false
set_option maxHeartbeats 2000000

def bfP (T : TypeId) (p F : Nat) : BFP := { T := T, id := 1, fid := 2, p := p, fb := F, o := 0, t := 0, pre := [], post := [], fs := [{}], hne := by decide, ho := rfl, ht := by decide }
theorem bf_make {tB tW tA : TypeId} {kd : IntKind} {w0 w4 : World} {γ4 : Nat → Nat} {p : Nat} {B : BS} (hO : Old w0 w4 γ4) (hB : BoardAt tB tW tA kd w4 γ4 1 p B) (T : TypeId) (f : FrS) :
    ∃ γ5, Old w0 (w4.alloc (.cells (frsCs kd [] [f] []) T)) γ5 ∧ BFAt tB tW tA kd (bfP T p w4.heap.size) (w4.alloc (.cells (frsCs kd [] [f] []) T)) γ5 (w4.alloc (.cells (frsCs kd [] [f] []) T)) γ5 B f ∧ ∀ b, b < w4.heap.size → γ5 b = γ4 b := by
  have h0 : Fr NoId γ4 γ4 w4 (w4.alloc (.cells (frsCs kd [] [f] []) T)) := (Fr.refl _ _ _).alloc _
  have hr := h0.relabel (fun _ => 2)
  refine ⟨_, hO.fr hr (fun h => h), ⟨hB.fr hr (fun h => h), Blk.new _ _ _, ?_, Fr.refl _ _ _⟩, fun b hb => if_pos hb⟩
  show (if w4.heap.size < w4.heap.size then _ else 2) = 2
  rw [if_neg (by omega)]
/-- a board that New has made, and what was there -/
theorem new_old {tB tW : TypeId} {kd : IntKind} {l : Lay} {w0 W w' : World} {e : Ending} (tA : TypeId) (hW : Below w0.heap.size w0 W) (h : NewEnd tB tW kd l W e w') :
    ∃ p γ, e = .returned (.pointer (some ⟨p, 0, none⟩)) ∧ Below W.heap.size W w' ∧ W.heap.size ≤ p ∧ BoardAt tB tW tA kd w' γ 1 p (newBS l) ∧ Old w0 w' γ ∧ ∀ b, b < W.heap.size → γ b = 0 := by
  obtain ⟨p, rfl, hb, hp, hB⟩ := newAt tA h
  have hB2 := hB (fun _ => 0) 1
  have hO : Old w0 W (fun _ => 0) := ⟨hW, fun _ _ => rfl⟩
  exact ⟨p, Lab W (fun _ => 0) 1, rfl, hb, hp, hB2.1, hO.fr hB2.2 (fun h => h), fun b hb => if_pos hb⟩
theorem fEnter32 (P : BFP) (w0 : World) (γ0 : Nat → Nat) (w : World) (γ : Nat → Nat) (b : BS) (f : FrS) (h : BFAt 132 48 208 .u32 P w0 γ0 w γ b f) (hok : b.Ok M32) (hlen : b.log.length ≤ 1000000) (t : Int) :
    Calls Tryd.prog 147 #[.pointer (some ⟨P.p, 0, none⟩), .int .i64 t, .pointer (some ⟨P.fb, P.o, none⟩)] w
      (BFEnd 132 48 208 .u32 P w0 γ0 (.bool (enterP M32 b t f.pc f.own).1) (enterP M32 b t f.pc f.own).2.1 { f with pc := (enterP M32 b t f.pc f.own).2.2.1, own := (enterP M32 b t f.pc f.own).2.2.2 }) := by
  have hq := tEnter32 w γ P.id P.fid P.p b h.brd hok hlen t P.fb P.o P.T _ h.blk h.lab P.hne f.pc f.own (frs_get P.ho (P.get f) 3 (by omega)) (frs_get P.ho (P.get f) 9 (by omega))
  refine hq.mono ?_
  rintro e w' ⟨rfl, γ', hB, hF, hfr⟩
  refine ⟨rfl, γ', hB, ?_, (hfr.lab _ h.blk.lt).trans h.lab, h.fr.trans hfr⟩
  rw [frs_set (f' := { f with own := (enterP M32 b t f.pc f.own).2.2.2 }) P.ho (P.get f) (by omega) rfl, List.set_set] at hF
  rw [frs_set (f' := { f with pc := (enterP M32 b t f.pc f.own).2.2.1, own := (enterP M32 b t f.pc f.own).2.2.2 }) P.ho (P.get _) (by omega) rfl, List.set_set] at hF
  exact hF
end Go.Proofs.YtnkmlopjinihiaaDoor
