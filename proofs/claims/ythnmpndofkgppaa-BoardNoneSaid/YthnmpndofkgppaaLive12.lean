/- sakialaw12's live: the document's example goes as it says. -/
import Derived.Test.YthnmpndofkgppaaCost
import Derived.Test.YthnmpndofkgppaaTurnF
import Derived.Test.YthnmpndofkgppaaIts
import Derived.Test.YthnmpndofkgppaaMarkP
import Derived.Test.YthnmpndofkgppaaLocked
import Derived.Test.YthnmpndofkgppaaBoard2
namespace Go.Proofs.Ythnmpndofkgppaa
open Go.RowKit
set_option linter.unusedVariables false
set_option linter.unusedSimpArgs false
set_option maxHeartbeats 2000000

theorem Its.one {w0 w : World} {γ : Nat → Nat} {x : It} (h : Old w0 w γ) (hx : x.P w γ) (hi : x.id ≠ 0) : Its w0 (fun _ => 0) NoId [x] w γ :=
  ⟨h.bel.os, h.bel.tape, h.bel.output, h.bel.size, fun b hb _ => ⟨h.bel.block b hb, h.lab b hb⟩, fun _ _ h => h.elim, fun y hy => by rw [List.mem_singleton.1 hy]; exact hx, fun y hy => by rw [List.mem_singleton.1 hy]; exact hi, by simp⟩
section
variable (ua : Option Addr) (uc : Nat)
def l12 : BS := newBS (mkLay ⟨2, 32, 4, 1, 4294967295, ua, 1, uc⟩)
def l12a : BS := ((l12 ua uc).add M32 0 1 2).2
theorem l12_a : (l12 ua uc).add M32 0 1 2 = (4294967295, l12a ua uc) := by rfl
theorem l12_p : (l12a ua uc).at_ 1 = 1 := by kernel_rfl
theorem l12_k : (l12a ua uc).l.kind 1 = 1 := by rfl
theorem l12_n : (l12a ua uc).log.length = 1 := by rfl
theorem l12_c : costN (l12a ua uc).log 0 (l12a ua uc).log.length = (0, 1) := by rfl
end
set_option maxRecDepth 100000 in
theorem live12 (w : World) : Calls Try.prog 24 #[] w fun e w' => e = .returned (.bool true) ∧ Below w.heap.size w w' := by
  have HO := Lib.hid (fun (Bk : Nat → Prop) ua uc W hB hU => layof Bk ⟨2, 32, 4, 1, 4294967295, ua, 1, uc⟩ [[]] rfl (lockedOk 2 _ (by decide) ua uc) (by simp) W hB hU)
  have HN := Lib.hid (fun (Bk : Nat → Prop) ua uc W hB hU => bnew32 Bk ⟨2, 32, 4, 1, 4294967295, ua, 1, uc⟩ [[]] rfl (lockedOk 2 _ (by decide) ua uc) rfl ⟨show (0 : Int) ≤ 4294967295 by decide, show (4294967295 : Int) ≤ 18446744073709551615 by decide⟩ (by simp) W hB hU)
  have HFT := Lib.hid (fun ua uc => newBS_fit ⟨2, 32, 4, 1, 4294967295, ua, 1, uc⟩ (lockedOk 2 _ (by decide) ua uc) rfl)
  have HP := Lib.hid plainC
  unfold Cf.vs at HO
  unfold Lay.vs at HN
  go_enter Try.func24, Try.ntmps24
  go_wp2_with (first
    | (go_at_call 26; refine (HP.out _).mono ?_; rintro e w1 ⟨A, c, rfl, hU, hc, hb1⟩; unfold plainVs; have HU := Lib.hid hU; have HB1 := Lib.hid hb1; have hz1 := hb1.size; clear hU hb1)
    | (go_at_call 8; refine (HO.out (fun b => w.heap.size ≤ b ∧ b < w1.heap.size) A c _ (by intro b hb; simp; omega) (HU.out.below (B := w1.heap.size) (by (repeat (with_reducible first | exact Below.refl _ _ | refine Below.drew ?_ | refine below_drewN ?_ _ | refine Below.setCell ?_ ?_ _ | refine Below.alloc ?_ ?_ _)); all_goals first | omega | (dsimp only; omega) | (simp; omega)) (fun b hb => hb.2))).mono ?_; rintro e w2 ⟨A2, c2, rfl, hc2, hU2, hb2⟩; unfold Lay.vs; have HU2 := Lib.hid hU2; have HB2 := Lib.hid hb2; have hz2 := hb2.size; clear hU2 hb2)
    | (go_at_call 9
       refine (HN.out _ A2 c2 _ (by intro b hb; have := hb.2; simp; omega) (HU2.out.below (B := w2.heap.size) (by (repeat (with_reducible first | exact Below.refl _ _ | refine Below.drew ?_ | refine below_drewN ?_ _ | refine Below.setCell ?_ ?_ _ | refine Below.alloc ?_ ?_ _)); all_goals first | omega | (dsimp only; omega) | (simp; omega)) (fun b hb => hb.2))).mono ?_
       intro e w3 hN
       have hW1 : Below w.heap.size w w2 := HB1.out.trans ((Below.trans (by (repeat (with_reducible first | exact Below.refl _ _ | refine Below.drew ?_ | refine below_drewN ?_ _ | refine Below.setCell ?_ ?_ _ | refine Below.alloc ?_ ?_ _)); all_goals first | omega | (dsimp only; omega) | (simp; omega)) (HB2.out.mono (by simp))).mono HB1.out.size)
       obtain ⟨p, γ4, rfl, hb4, hp4, hB4, hO4, hl4⟩ := new_old 92 (Below.refl _ _) hN
       have hi4 := Its.one hO4 (x := itB 68 36 92 .u32 1 p (l12 A2 c2)) (by exact hB4) (by decide : (1 : Nat) ≠ 0)
       obtain ⟨hc4, hf4⟩ := bcell hi4.bel
       have hz4 : w2.heap.size < w3.heap.size := Nat.lt_of_lt_of_le (by simp) hi4.bel.size
       have HI4 := Lib.hid hi4
       have HFI := Lib.hid (show BS.Fit M32 (l12 A2 c2) from HFT.out A2 c2)
       have HW1 := Lib.hid (hW1.alloc hW1.size (Obj.cells ((mkLay ⟨2, 32, 4, 1, 4294967295, A2, 1, c2⟩).vs.toArray) 30))
       clear hN hb4 hp4 hB4 hO4 hl4 hi4 hW1)
    | (go_at_call 59; refine (pSecond HPR.out _).mono ?_; rintro e w' ⟨rfl, rfl⟩)
    | (go_at_call 22; have hq := bCost32 _ _ 1 p (l12a A2 c2) HI6.out.g0 (by rw [l12_n]; decide) 0; rw [l12_c] at hq; refine hq.mono ?_; clear hq; rintro e w7 ⟨x, y, hpr, rfl, hb7⟩; have HPR := Lib.hid hpr; have HI7 := Lib.hid (HI6.out.below hb7); clear hpr hb7)
    | (go_at_call 20; have hq := bPeek32 _ _ 1 p (l12a A2 c2) HI5.out.g0 HFA.out.ok 1 (.inl (l12_k A2 c2)); rw [l12_p] at hq; refine hq.mono ?_; clear hq; rintro e w6 ⟨rfl, hb6⟩; have HI6 := Lib.hid (HI5.out.below hb6); clear hb6)
    | (go_at_call 40; have hq := bAdd32 _ _ 1 p (l12 A2 c2) HI4.out.g0 HFI.out.ok (show 0 ≤ 1000000 by decide) 0 1 2; have hfa := HFI.out.add 0 1 2; rw [l12_a] at hq hfa; refine hq.mono ?_; clear hq; rintro e w5 ⟨rfl, γ5, hB5, hfr⟩; have hi5 := HI4.out.s0 (y := itB 68 36 92 .u32 1 p (l12a A2 c2)) rfl hfr hB5; obtain ⟨hc5, hf5⟩ := bcell hi5.bel; have hz5 : w2.heap.size < w5.heap.size := Nat.lt_of_lt_of_le (by simp) hi5.bel.size; have HI5 := Lib.hid hi5; have HFA := Lib.hid (show BS.Fit M32 (l12a A2 c2) from hfa); clear hB5 hfr hi5 hfa))
  go_ret
  exact ⟨rfl, HW1.out.trans (HI7.out.bel.mono HW1.out.size)⟩
end Go.Proofs.Ythnmpndofkgppaa
