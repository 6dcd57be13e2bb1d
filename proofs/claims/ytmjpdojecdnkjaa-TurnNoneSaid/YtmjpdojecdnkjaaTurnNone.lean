/- sakialaw18.TurnNone returns true for every input, and changes nothing. -/
import Derived.Test.YtmjpdojecdnkjaaTurnF
import Derived.Test.YtmjpdojecdnkjaaLive18
namespace Go.Proofs.Ytmjpdojecdnkjaa
open Go.RowKit
set_option linter.unusedVariables false
set_option linter.unusedSimpArgs false
set_option maxHeartbeats 4000000

section
variable (w0 : World)
set_option maxRecDepth 100000 in
theorem turnNone_any (c : Cf) (up : List (List Int)) (hun : c.un = up.length) (hU : UpAt w0 (fun b => b < w0.heap.size) c.ua up) (hlen : up.length ≤ maxLen) (hll : ∀ l ∈ up, l.length ≤ maxLen) (hst : 0 ≤ c.start ∧ c.start ≤ 18446744073709551615) (t pc : Int) :
    Calls Try.prog 6 #[.agg c.vs.toArray, .int .i64 t, .int .i64 pc] w0 fun e w' => e = .returned (.bool true) ∧ Below w0.heap.size w0 w' := by
  have HV := Lib.hid live18
  have hlo := fun W (hW : Below w0.heap.size w0 W) => llongB _ up c.ua c.uc hlen hll W (hU.below hW (fun b hb => hb))
  by_cases hs : ShortUp up
  · have hsb : (!decide (ShortUp up)) = false := by simp [hs]
    simp only [hsb] at hlo
    have hll6 : ∀ l ∈ up, l.length ≤ 1000000 := fun l hl => by have := hs.2 l hl; omega
    have hlen6 : up.length ≤ 1000000 := by have := hs.1; omega
    have hri := fun W (hW : Below w0.heap.size w0 W) => rrightOf _ c up hun hlen6 hll6 W (fun b hb => Nat.lt_of_lt_of_le hb hW.size) (hU.below hW (fun b hb => hb))
    by_cases hc : confCode c up = 0
    · have hok := cfOk_of_code hc
      simp only [show (confCode c up == 0) = true by simp [hc]] at hri
      by_cases hwid : c.width = 64
      · obtain ⟨variant, width, cap, producers, start, ua, un, uc⟩ := c
        unfold Cf.vs at *
        dsimp only at *
        subst hwid
        have HLO := Lib.hid hlo
        have HRI := Lib.hid hri
        have HOF := Lib.hid (fun W (hW : Below w0.heap.size w0 W) => layof (fun b => b < w0.heap.size) ⟨variant, 64, cap, producers, start, ua, un, uc⟩ up hun hok hll6 W (fun b hb => Nat.lt_of_lt_of_le hb hW.size) (hU.below hW (fun b hb => hb)))
        have HNW := Lib.hid (fun (Bk : Nat → Prop) ua uc W hB hU => bnew64 Bk ⟨variant, 64, cap, producers, start, ua, un, uc⟩ up hun (hok.ua ua uc) rfl hst hll6 W hB hU)
        have HFT := Lib.hid (fun ua uc => newBS_fit ⟨variant, 64, cap, producers, start, ua, un, uc⟩ (hok.ua ua uc) hun)
        unfold Cf.vs at HOF
        unfold Lay.vs at HNW
        subst hun
        clear hlo hri hU hll hlen hll6 hlen6 hs hsb hst hc hok
        have htrue : True := trivial
        by_cases hv5 : variant = 5
        · subst hv5
          go_enter Try.func6, Try.ntmps6
          go_wp2_with (first | (go_at_call 23; refine (HLO.out _ (by (repeat (with_reducible first | exact Below.refl _ _ | refine Below.drew ?_ | refine below_drewN ?_ _ | refine Below.setCell ?_ ?_ _ | refine Below.alloc ?_ ?_ _)); all_goals first | omega | (dsimp only; omega) | (simp; omega))).mono ?_; rintro e w' ⟨rfl, rfl⟩) | (go_at_call 24; refine (HRI.out _ (by (repeat (with_reducible first | exact Below.refl _ _ | refine Below.drew ?_ | refine below_drewN ?_ _ | refine Below.setCell ?_ ?_ _ | refine Below.alloc ?_ ?_ _)); all_goals first | omega | (dsimp only; omega) | (simp; omega))).mono ?_; rintro e w2 ⟨rfl, hb2⟩; obtain ⟨hc2, hf2⟩ := bcell hb2; have hz2 := hb2.size; have HCF2 := Lib.hid ((Blk.new w0 51 _).below hb2 (by simp)); have HB2 := Lib.hid hb2; clear hb2) | (go_at_call 18; refine (HV.out _).mono ?_; rintro e w9 ⟨rfl, hb9⟩; have HB9 := Lib.hid hb9; clear hb9) | (go_at_call 25; have hW1 := (((Below.refl w0.heap.size w0).alloc (Nat.le_refl _) _).trans (HB2.out.mono (by simp))); have hq := HOF.out _ hW1; refine hq.mono ?_; clear hq; rintro e w3 ⟨A3, c3, rfl, hcl3, hU3, hb3⟩; unfold Lay.vs; obtain ⟨hc3, hf3⟩ := bcell hb3; have HCF3 := Lib.hid (HCF2.out.below hb3 HCF2.out.lt); have HU3 := Lib.hid hU3; have HB3 := Lib.hid hb3; have hz3 := hb3.size; have HW3 := Lib.hid (hW1.trans (hb3.mono hW1.size)); clear hU3 hb3 hcl3 hW1) | (go_at_call 26; refine (HNW.out _ A3 c3 _ (by intro b hb; have := hb.2; simp; omega) (HU3.out.below (B := w3.heap.size) (by (repeat (with_reducible first | exact Below.refl _ _ | refine Below.drew ?_ | refine below_drewN ?_ _ | refine Below.setCell ?_ ?_ _ | refine Below.alloc ?_ ?_ _)); all_goals first | omega | (dsimp only; omega) | (simp; omega)) (fun b hb => hb.2))).mono ?_; intro e w4 hN; obtain ⟨p, γ4, rfl, hb4, hp4, hB4, hO4, hl4⟩ := new_old 87 (w0 := w0) (HW3.out.alloc HW3.out.size _) hN; obtain ⟨hc4, hf4⟩ := bcell hb4; have hz4 := hb4.size; have hft : BS.Fit M64 _ := HFT.out A3 c3; obtain ⟨γ5, hO5, hBF, hl5⟩ := bf_make hO4 hB4 63 { pc := pc }; have HCF4 := Lib.hid ((HCF3.out.alloc _).below hb4 (HCF3.out.alloc _).lt); have HBF := Lib.hid hBF; have HO5 := Lib.hid hO5; have HB4 := Lib.hid hb4; have HFI := Lib.hid hft; clear hN hb4 hp4 hB4 hO4 hl4 hft hBF hO5 hl5) | (go_at_call_of 28 (Value.pointer none); go_at_call_of 28 (Value.pointer (some (Addr.mk p 0 none))); have hq := tEnterNF64 _ γ5 1 p _ HBF.out.brd t; refine hq.mono ?_; clear hq; rintro e w6 ⟨rfl, hb6⟩;  have c6 : w6.cell? ⟨w4.heap.size, 3, none⟩ = some (.int .i64 pc) := (HBF.out.below hb6).cPc; have HBF6 := Lib.hid (HBF.out.below hb6); have hz6 := (below_new hb6).size; have HCF6 := Lib.hid (HCF4.out.below (below_new hb6) HCF4.out.lt); have v6 : w6.cell? ⟨w0.heap.size, 0, none⟩ = some (.int .i64 5) := HCF6.out.cell 0; have HB6 := Lib.hid hb6; clear hb6) | (go_at_call_of 28 (Value.pointer none); refine (tEnterNB64 _ _ _).mono ?_; rintro e w' ⟨rfl, rfl⟩) | (go_at_call_of 27 (Value.pointer none); refine (tLeaveN64 _ _).mono ?_; rintro e w' ⟨rfl, rfl⟩) | (go_at_call_of 29 (Value.pointer none); refine (tHasN64 _).mono ?_; rintro e w' ⟨rfl, rfl⟩) | (go_at_call_of 30 (Value.pointer none); refine (tWaitingN64 _).mono ?_; rintro e w' ⟨rfl, rfl⟩) | (go_at_call 31; have hq := bLen64 _ _ 1 p _ HBF6.out.brd; refine hq.mono ?_; clear hq; rintro e w' ⟨rfl, hw⟩; subst hw; rw [show (newBS (mkLay ⟨5, 64, cap, producers, start, A3, up.length, c3⟩)).log.length = 0 from rfl]) | (go_at_call_of 29 (Value.pointer (some (Addr.mk p 0 none))); have hq := tHas64 _ _ 1 p _ HBF6.out.brd; rw [show decide ((newBS (mkLay ⟨5, 64, cap, producers, start, A3, up.length, c3⟩)).l.c.variant = 5) = true by exact decide_eq_true (by show (mkLay _).c.variant = 5; rw [mkLay_c])] at hq; refine hq.mono ?_; clear hq; rintro e w7 ⟨rfl, hb7⟩; obtain ⟨hc7, hf7⟩ := bcell hb7; have hz7 := hb7.size; have HBF7 := Lib.hid (HBF6.out.below hb7); clear hb7))
          go_ret
          have ho := HO5.out.fr HBF7.out.fr (by unfold TwoId; simp [bfP])
          exact ⟨rfl, ho.bel.trans (HB9.out.mono ho.bel.size)⟩
        · go_enter Try.func6, Try.ntmps6
          go_wp2_with (first | (go_at_call 23; refine (HLO.out _ (by (repeat (with_reducible first | exact Below.refl _ _ | refine Below.drew ?_ | refine below_drewN ?_ _ | refine Below.setCell ?_ ?_ _ | refine Below.alloc ?_ ?_ _)); all_goals first | omega | (dsimp only; omega) | (simp; omega))).mono ?_; rintro e w' ⟨rfl, rfl⟩) | (go_at_call 24; refine (HRI.out _ (by (repeat (with_reducible first | exact Below.refl _ _ | refine Below.drew ?_ | refine below_drewN ?_ _ | refine Below.setCell ?_ ?_ _ | refine Below.alloc ?_ ?_ _)); all_goals first | omega | (dsimp only; omega) | (simp; omega))).mono ?_; rintro e w2 ⟨rfl, hb2⟩; obtain ⟨hc2, hf2⟩ := bcell hb2; have hz2 := hb2.size; have HCF2 := Lib.hid ((Blk.new w0 51 _).below hb2 (by simp)); have HB2 := Lib.hid hb2; clear hb2) | (go_at_call 18; refine (HV.out _).mono ?_; rintro e w9 ⟨rfl, hb9⟩; have HB9 := Lib.hid hb9; clear hb9) | (go_at_call 25; have hW1 := (((Below.refl w0.heap.size w0).alloc (Nat.le_refl _) _).trans (HB2.out.mono (by simp))); have hq := HOF.out _ hW1; refine hq.mono ?_; clear hq; rintro e w3 ⟨A3, c3, rfl, hcl3, hU3, hb3⟩; unfold Lay.vs; obtain ⟨hc3, hf3⟩ := bcell hb3; have HCF3 := Lib.hid (HCF2.out.below hb3 HCF2.out.lt); have HU3 := Lib.hid hU3; have HB3 := Lib.hid hb3; have hz3 := hb3.size; have HW3 := Lib.hid (hW1.trans (hb3.mono hW1.size)); clear hU3 hb3 hcl3 hW1) | (go_at_call 26; refine (HNW.out _ A3 c3 _ (by intro b hb; have := hb.2; simp; omega) (HU3.out.below (B := w3.heap.size) (by (repeat (with_reducible first | exact Below.refl _ _ | refine Below.drew ?_ | refine below_drewN ?_ _ | refine Below.setCell ?_ ?_ _ | refine Below.alloc ?_ ?_ _)); all_goals first | omega | (dsimp only; omega) | (simp; omega)) (fun b hb => hb.2))).mono ?_; intro e w4 hN; obtain ⟨p, γ4, rfl, hb4, hp4, hB4, hO4, hl4⟩ := new_old 87 (w0 := w0) (HW3.out.alloc HW3.out.size _) hN; obtain ⟨hc4, hf4⟩ := bcell hb4; have hz4 := hb4.size; have hft : BS.Fit M64 _ := HFT.out A3 c3; obtain ⟨γ5, hO5, hBF, hl5⟩ := bf_make hO4 hB4 63 { pc := pc }; have HCF4 := Lib.hid ((HCF3.out.alloc _).below hb4 (HCF3.out.alloc _).lt); have HBF := Lib.hid hBF; have HO5 := Lib.hid hO5; have HB4 := Lib.hid hb4; have HFI := Lib.hid hft; clear hN hb4 hp4 hB4 hO4 hl4 hft hBF hO5 hl5) | (go_at_call_of 28 (Value.pointer none); go_at_call_of 28 (Value.pointer (some (Addr.mk p 0 none))); have hq := tEnterNF64 _ γ5 1 p _ HBF.out.brd t; refine hq.mono ?_; clear hq; rintro e w6 ⟨rfl, hb6⟩;  have c6 : w6.cell? ⟨w4.heap.size, 3, none⟩ = some (.int .i64 pc) := (HBF.out.below hb6).cPc; have HBF6 := Lib.hid (HBF.out.below hb6); have hz6 := (below_new hb6).size; have HCF6 := Lib.hid (HCF4.out.below (below_new hb6) HCF4.out.lt); have v6 : w6.cell? ⟨w0.heap.size, 0, none⟩ = some (.int .i64 variant) := HCF6.out.cell 0; have HB6 := Lib.hid hb6; clear hb6) | (go_at_call_of 28 (Value.pointer none); refine (tEnterNB64 _ _ _).mono ?_; rintro e w' ⟨rfl, rfl⟩) | (go_at_call_of 27 (Value.pointer none); refine (tLeaveN64 _ _).mono ?_; rintro e w' ⟨rfl, rfl⟩) | (go_at_call_of 29 (Value.pointer none); refine (tHasN64 _).mono ?_; rintro e w' ⟨rfl, rfl⟩) | (go_at_call_of 30 (Value.pointer none); refine (tWaitingN64 _).mono ?_; rintro e w' ⟨rfl, rfl⟩) | (go_at_call 31; have hq := bLen64 _ _ 1 p _ HBF6.out.brd; refine hq.mono ?_; clear hq; rintro e w' ⟨rfl, hw⟩; subst hw; rw [show (newBS (mkLay ⟨variant, 64, cap, producers, start, A3, up.length, c3⟩)).log.length = 0 from rfl]) | (go_at_call_of 27 (Value.pointer (some (Addr.mk p 0 none))); have hq := tLeave64 w6 _ 1 p _ HBF6.out.brd HFI.out.ok (show 0 ≤ 1000000 by decide) t; rw [show leaveP M64 (newBS (mkLay ⟨variant, 64, cap, producers, start, A3, up.length, c3⟩)) t = newBS (mkLay ⟨variant, 64, cap, producers, start, A3, up.length, c3⟩) by unfold leaveP; exact if_neg (by show ¬ (mkLay _).c.variant = 5; rw [mkLay_c]; exact hv5)] at hq; refine hq.mono ?_; clear hq; intro e w8 hmu; obtain ⟨rfl, γ8, hh8⟩ := HBF6.out.mut hmu; have HBF8 := Lib.hid hh8; clear hmu hh8) | (go_at_call_of 28 (Value.pointer (some (Addr.mk p 0 none))); have hq := fEnter64 _ _ _ _ _ _ _ HBF8.out HFI.out.ok (show 0 ≤ 1000000 by decide) t; rw [show enterP M64 (newBS (mkLay ⟨variant, 64, cap, producers, start, A3, up.length, c3⟩)) t ({ pc := pc } : FrS).pc ({ pc := pc } : FrS).own = (true, newBS (mkLay ⟨variant, 64, cap, producers, start, A3, up.length, c3⟩), pc, 0) by unfold enterP; exact if_pos (by show ¬ (mkLay _).c.variant = 5; rw [mkLay_c]; exact hv5)] at hq; refine hq.mono ?_; clear hq; rintro e w10 ⟨rfl, γ10, hh10⟩; have c10 : w10.cell? ⟨w4.heap.size, 3, none⟩ = some (.int .i64 pc) := hh10.cPc; have HBF10 := Lib.hid hh10; clear hh10) | (go_at_call_of 29 (Value.pointer (some (Addr.mk p 0 none))); have hq := tHas64 _ _ 1 p _ HBF10.out.brd; rw [show decide ((newBS (mkLay ⟨variant, 64, cap, producers, start, A3, up.length, c3⟩)).l.c.variant = 5) = false by exact decide_eq_false (by show ¬ (mkLay _).c.variant = 5; rw [mkLay_c]; exact hv5)] at hq; refine hq.mono ?_; clear hq; rintro e w7 ⟨rfl, hb7⟩; have HBF7 := Lib.hid (HBF10.out.below hb7); clear hb7) | (go_at_call 31; have hq := bLen64 _ _ 1 p _ HBF7.out.brd; refine hq.mono ?_; clear hq; rintro e w' ⟨rfl, rfl⟩; rw [show (newBS (mkLay ⟨variant, 64, cap, producers, start, A3, up.length, c3⟩)).log.length = 0 from rfl]))
          go_ret
          have ho := HO5.out.fr HBF7.out.fr (by unfold TwoId; simp [bfP])
          exact ⟨rfl, ho.bel.trans (HB9.out.mono ho.bel.size)⟩
      · have hwb : (c.width != 64) = true := by simp [hwid]
        obtain ⟨variant, width, cap, producers, start, ua, un, uc⟩ := c
        unfold Cf.vs at *
        dsimp only at *
        subst hun
        have HLO := Lib.hid hlo
        have HRI := Lib.hid hri
        clear hlo hri hU hll hlen hll6 hlen6 hs hsb hst hc hok hwid
        go_enter Try.func6, Try.ntmps6
        go_wp2_with (first | (go_at_call 23; refine (HLO.out _ (by (repeat (with_reducible first | exact Below.refl _ _ | refine Below.drew ?_ | refine below_drewN ?_ _ | refine Below.setCell ?_ ?_ _ | refine Below.alloc ?_ ?_ _)); all_goals first | omega | (dsimp only; omega) | (simp; omega))).mono ?_; rintro e w' ⟨rfl, rfl⟩) | (go_at_call 24; refine (HRI.out _ (by (repeat (with_reducible first | exact Below.refl _ _ | refine Below.drew ?_ | refine below_drewN ?_ _ | refine Below.setCell ?_ ?_ _ | refine Below.alloc ?_ ?_ _)); all_goals first | omega | (dsimp only; omega) | (simp; omega))).mono ?_; rintro e w2 ⟨rfl, hb2⟩; obtain ⟨hc2, hf2⟩ := bcell hb2; have hz2 := hb2.size; have HCF2 := Lib.hid ((Blk.new w0 51 _).below hb2 (by simp)); have HB2 := Lib.hid hb2; clear hb2) | (go_at_call 18; refine (HV.out _).mono ?_; rintro e w9 ⟨rfl, hb9⟩; have HB9 := Lib.hid hb9; clear hb9))
        go_ret
        exact ⟨rfl, below_new (HB2.out.trans (HB9.out.mono HB2.out.size))⟩
    · simp only [show (confCode c up == 0) = false by simp [hc]] at hri
      obtain ⟨variant, width, cap, producers, start, ua, un, uc⟩ := c
      unfold Cf.vs at *
      dsimp only at *
      subst hun
      have HLO := Lib.hid hlo
      have HRI := Lib.hid hri
      clear hlo hri hU hll hlen hll6 hlen6 hs hsb hst hc
      go_enter Try.func6, Try.ntmps6
      go_wp2_with (first | (go_at_call 23; refine (HLO.out _ (by (repeat (with_reducible first | exact Below.refl _ _ | refine Below.drew ?_ | refine below_drewN ?_ _ | refine Below.setCell ?_ ?_ _ | refine Below.alloc ?_ ?_ _)); all_goals first | omega | (dsimp only; omega) | (simp; omega))).mono ?_; rintro e w' ⟨rfl, rfl⟩) | (go_at_call 24; refine (HRI.out _ (by (repeat (with_reducible first | exact Below.refl _ _ | refine Below.drew ?_ | refine below_drewN ?_ _ | refine Below.setCell ?_ ?_ _ | refine Below.alloc ?_ ?_ _)); all_goals first | omega | (dsimp only; omega) | (simp; omega))).mono ?_; rintro e w2 ⟨rfl, hb2⟩; obtain ⟨hc2, hf2⟩ := bcell hb2; have hz2 := hb2.size; have HCF2 := Lib.hid ((Blk.new w0 51 _).below hb2 (by simp)); have HB2 := Lib.hid hb2; clear hb2) | (go_at_call 18; refine (HV.out _).mono ?_; rintro e w9 ⟨rfl, hb9⟩; have HB9 := Lib.hid hb9; clear hb9))
      go_ret
      exact ⟨rfl, below_new (HB2.out.trans (HB9.out.mono HB2.out.size))⟩
  · simp only [show (!decide (ShortUp up)) = true by simp [hs]] at hlo
    obtain ⟨variant, width, cap, producers, start, ua, un, uc⟩ := c
    unfold Cf.vs at *
    dsimp only at *
    subst hun
    have HLO := Lib.hid hlo
    clear hlo hU hll hlen hs hst
    go_enter Try.func6, Try.ntmps6
    go_wp2_with (first | (go_at_call 23; refine (HLO.out _ (by (repeat (with_reducible first | exact Below.refl _ _ | refine Below.drew ?_ | refine below_drewN ?_ _ | refine Below.setCell ?_ ?_ _ | refine Below.alloc ?_ ?_ _)); all_goals first | omega | (dsimp only; omega) | (simp; omega))).mono ?_; rintro e w' ⟨rfl, rfl⟩) | (go_at_call 18; refine (HV.out _).mono ?_; rintro e w9 ⟨rfl, hb9⟩; have HB9 := Lib.hid hb9; clear hb9))
    go_ret
    exact ⟨rfl, below_new HB9.out⟩
end
end Go.Proofs.Ytmjpdojecdnkjaa
