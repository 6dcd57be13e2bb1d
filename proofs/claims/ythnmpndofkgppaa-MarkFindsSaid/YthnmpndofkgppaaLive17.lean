/- sakialaw17's live: the document's example goes as it says; mark's functions without a board or registers. -/
import Derived.Test.YthnmpndofkgppaaMark3
import Derived.Test.YthnmpndofkgppaaTurnF
namespace Go.Proofs.Ythnmpndofkgppaa
open Go.RowKit
set_option linter.unusedVariables false
set_option linter.unusedSimpArgs false
set_option maxHeartbeats 2000000

theorem mpublishNB32 (w : World) (t : Int) (fv : Value) :
    Calls Try.prog 11 #[.pointer none, .int .i64 t, fv] w fun e w' => e = .returned (.bool true) ∧ w = w' := by
  go_enter Try.func11, Try.ntmps11
  go_wp2_with (go_at_call 32; refine (mhasN32 _).mono ?_; rintro e w1 ⟨rfl, rfl⟩)
  go_ret
  exact ⟨rfl, rfl⟩
theorem mpublishNF32 (w : World) (γ : Nat → Nat) (id p : Nat) (b : BS) (h : BoardAt 68 36 92 .u32 w γ id p b) (t : Int) :
    Calls Try.prog 11 #[.pointer (some ⟨p, 0, none⟩), .int .i64 t, .pointer none] w fun e w' => e = .returned (.bool true) ∧ Below w.heap.size w w' := by
  have HH := Lib.hid (mhas32 w γ id p b h)
  clear h
  cases hm : b.hasM
  · rw [hm] at HH
    go_enter Try.func11, Try.ntmps11
    go_wp2_with (go_at_call 32; refine HH.out.mono ?_; rintro e w1 ⟨rfl, hb1⟩)
    go_ret
    exact ⟨rfl, hb1⟩
  · rw [hm] at HH
    go_enter Try.func11, Try.ntmps11
    go_wp2_with (go_at_call 32; refine HH.out.mono ?_; rintro e w1 ⟨rfl, hb1⟩)
    go_ret
    exact ⟨rfl, hb1⟩
theorem mseekNB32 (w : World) (t : Int) (fv : Value) :
    Calls Try.prog 12 #[.pointer none, .int .i64 t, fv] w fun e w' => e = .returned (.bool true) ∧ w = w' := by
  go_enter Try.func12, Try.ntmps12
  go_wp2_with (go_at_call 32; refine (mhasN32 _).mono ?_; rintro e w1 ⟨rfl, rfl⟩)
  go_ret
  exact ⟨rfl, rfl⟩
theorem mseekNF32 (w : World) (γ : Nat → Nat) (id p : Nat) (b : BS) (h : BoardAt 68 36 92 .u32 w γ id p b) (t : Int) :
    Calls Try.prog 12 #[.pointer (some ⟨p, 0, none⟩), .int .i64 t, .pointer none] w fun e w' => e = .returned (.bool true) ∧ Below w.heap.size w w' := by
  have HH := Lib.hid (mhas32 w γ id p b h)
  clear h
  cases hm : b.hasM
  · rw [hm] at HH
    go_enter Try.func12, Try.ntmps12
    go_wp2_with (go_at_call 32; refine HH.out.mono ?_; rintro e w1 ⟨rfl, hb1⟩)
    go_ret
    exact ⟨rfl, hb1⟩
  · rw [hm] at HH
    go_enter Try.func12, Try.ntmps12
    go_wp2_with (go_at_call 32; refine HH.out.mono ?_; rintro e w1 ⟨rfl, hb1⟩)
    go_ret
    exact ⟨rfl, hb1⟩
theorem mprefixN32 (w : World) (from_ most : Int) :
    Calls Try.prog 27 #[.pointer none, .int .u32 from_, .int .i64 most] w fun e w' => e = .returned (.int .i64 0) ∧ w = w' := by
  go_enter Try.func27, Try.ntmps27
  go_wp2_with (go_at_call 32; refine (mhasN32 _).mono ?_; rintro e w1 ⟨rfl, rfl⟩)
  go_ret
  exact ⟨rfl, rfl⟩
theorem BS.Fit.publish {M : Int} {b : BS} (h : b.Fit M) (t : Int) (f : FrS) : (publishP M b t f).2.1.Fit M := by
  unfold publishP
  split
  · exact h
  · split
    · split
      · exact h.mlay t (addM_in h.M2 _ _)
      · exact h.mlay t (addM_in h.M2 _ _)
    · exact h
section
variable (ua : Option Addr) (uc : Nat)
def l17 : BS := newBS (mkLay ⟨2, 32, 4, 1, 0, ua, 1, uc⟩)
def l17a : BS := (publishP M32 (l17 ua uc) 0 { n := 2 }).2.1
def l17b : BS := (publishP M32 (l17a ua uc) 0 { n := 2, i := 1 }).2.1
theorem l17_p : prefixP M32 (l17 ua uc) 0 4 = 0 := by kernel_rfl
theorem l17_a : publishP M32 (l17 ua uc) 0 { n := 2 } = (false, l17a ua uc, { n := 2, i := 1 }) := by rfl
theorem l17_b : publishP M32 (l17a ua uc) 0 { n := 2, i := 1 } = (true, l17b ua uc, { n := 2, i := 0 }) := by rfl
theorem l17_n : (l17b ua uc).log.length = 2 := by rfl
theorem l17_q : prefixP M32 (l17b ua uc) 0 4 = 2 := by kernel_rfl
theorem l17_m : (l17b ua uc).marked 1 = true := by rfl
end
set_option maxRecDepth 100000 in
theorem live17 (w : World) : Calls Try.prog 7 #[] w fun e w' => e = .returned (.bool true) ∧ Below w.heap.size w w' := by
  have HO := Lib.hid (fun (Bk : Nat → Prop) ua uc W hB hU => layof Bk ⟨2, 32, 4, 1, 0, ua, 1, uc⟩ [[]] rfl (lockedOk 2 _ (by decide) ua uc) (by simp) W hB hU)
  have HN := Lib.hid (fun (Bk : Nat → Prop) ua uc W hB hU => bnew32 Bk ⟨2, 32, 4, 1, 0, ua, 1, uc⟩ [[]] rfl (lockedOk 2 _ (by decide) ua uc) rfl ⟨show (0 : Int) ≤ 0 by decide, show (0 : Int) ≤ 18446744073709551615 by decide⟩ (by simp) W hB hU)
  have HFT := Lib.hid (fun ua uc => newBS_fit ⟨2, 32, 4, 1, 0, ua, 1, uc⟩ (lockedOk 2 _ (by decide) ua uc) rfl)
  have HP := Lib.hid plainC
  unfold Cf.vs at HO
  unfold Lay.vs at HN
  go_enter Try.func7, Try.ntmps7
  go_wp2_with (first
    | (go_at_call 26; refine (HP.out _).mono ?_; rintro e w1 ⟨A, c, rfl, hU, hc, hb1⟩; unfold plainVs; have HU := Lib.hid hU; have HB1 := Lib.hid hb1; have hz1 := hb1.size; clear hU hb1)
    | (go_at_call 8; refine (HO.out (fun b => w.heap.size ≤ b ∧ b < w1.heap.size) A c _ (by intro b hb; simp; omega) (HU.out.below (B := w1.heap.size) (by (repeat (with_reducible first | exact Below.refl _ _ | refine Below.drew ?_ | refine below_drewN ?_ _ | refine Below.setCell ?_ ?_ _ | refine Below.alloc ?_ ?_ _)); all_goals first | omega | (dsimp only; omega) | (simp; omega)) (fun b hb => hb.2))).mono ?_; rintro e w2 ⟨A2, c2, rfl, hc2, hU2, hb2⟩; unfold Lay.vs; have HU2 := Lib.hid hU2; have HB2 := Lib.hid hb2; have hz2 := hb2.size; clear hU2 hb2)
    | (go_at_call 9
       refine (HN.out _ A2 c2 _ (by intro b hb; have := hb.2; simp; omega) (HU2.out.below (B := w2.heap.size) (by (repeat (with_reducible first | exact Below.refl _ _ | refine Below.drew ?_ | refine below_drewN ?_ _ | refine Below.setCell ?_ ?_ _ | refine Below.alloc ?_ ?_ _)); all_goals first | omega | (dsimp only; omega) | (simp; omega)) (fun b hb => hb.2))).mono ?_
       intro e w3 hN
       have hW1 : Below w.heap.size w w2 := HB1.out.trans ((Below.trans (by (repeat (with_reducible first | exact Below.refl _ _ | refine Below.drew ?_ | refine below_drewN ?_ _ | refine Below.setCell ?_ ?_ _ | refine Below.alloc ?_ ?_ _)); all_goals first | omega | (dsimp only; omega) | (simp; omega)) (HB2.out.mono (by simp))).mono HB1.out.size)
       obtain ⟨p, γ4, rfl, hb4, hp4, hB4, hO4, hl4⟩ := new_old 92 (w0 := w) (hW1.alloc hW1.size _) hN
       have hft : BS.Fit M32 (l17 A2 c2) := HFT.out A2 c2
       obtain ⟨γ5, hO5, hBF, hl5⟩ := bf_make hO4 hB4 41 { n := 2 }
       have HBF := Lib.hid (show BFAt 68 36 92 .u32 _ _ _ _ _ (l17 A2 c2) _ from hBF); have HO5 := Lib.hid hO5; have HFI := Lib.hid hft
       clear hN hb4 hp4 hB4 hO4 hl4 hft hBF hO5 hl5 hW1)
    | (go_at_call 13; have hq := mmarked32 _ _ _ _ _ H9.out.brd FIB.out 1 (by unfold InM M32; decide); rw [l17_m] at hq; refine hq.mono ?_; clear hq; rintro e w10 ⟨rfl, hb10⟩; have H10 := Lib.hid (H9.out.below hb10); clear hb10)
    | (go_at_call 27; have hq := mprefix32 _ _ _ _ _ H8.out.brd FIB.out 0 4; rw [l17_q] at hq; refine hq.mono ?_; clear hq; rintro e w9 ⟨rfl, hb9⟩; have H9 := Lib.hid (H8.out.below hb9); clear hb9)
    | (go_at_call 16; have hq := bLen32 _ _ _ _ _ H8.out.brd; rw [l17_n] at hq; refine hq.mono ?_; clear hq; rintro e w' ⟨rfl, rfl⟩)
    | (go_at_call 11; have hq := mpublish32 _ _ _ _ _ _ _ H7.out FIA.out (show 1 ≤ 1000000 by decide) 0 (show (2 : Int) ≤ _ by decide); rw [l17_b] at hq; refine hq.mono ?_; clear hq; rintro e w8 ⟨rfl, γ8, hh8⟩; have H8 := Lib.hid hh8; clear hh8)
    | (go_at_call 11; have hq := mpublish32 _ _ _ _ _ _ _ H6.out HFI.out (show 0 ≤ 1000000 by decide) 0 (show (2 : Int) ≤ _ by decide); rw [l17_a] at hq; refine hq.mono ?_; clear hq; rintro e w7 ⟨rfl, γ7, hh7⟩; have H7 := Lib.hid hh7; have FIA := Lib.hid (show (l17a A2 c2).Fit M32 from HFI.out.publish 0 _); have FIB := Lib.hid (show (l17b A2 c2).Fit M32 from FIA.out.publish 0 _); clear hh7)
    | (go_at_call 27; have hq := mprefix32 _ _ _ _ _ HBF.out.brd HFI.out 0 4; rw [l17_p] at hq; refine hq.mono ?_; clear hq; rintro e w6 ⟨rfl, hb6⟩; have H6 := Lib.hid (HBF.out.below hb6); clear hb6))
  go_ret
  exact ⟨rfl, (HO5.out.fr H10.out.fr (by unfold TwoId; simp [bfP])).bel⟩
end Go.Proofs.Ythnmpndofkgppaa
