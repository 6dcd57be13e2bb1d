/- sakialaw18.TurnPlays returns true for every input, and changes nothing. -/
import Derived.Test.YtmjpdojecdnkjaaGreatTurnPlays
namespace Go.Proofs.YtmjpdojecdnkjaaGreat
open Go.RowKit
set_option linter.unusedVariables false
set_option linter.unusedSimpArgs false
set_option maxHeartbeats 4000000

theorem KAt.below {kd : IntKind} {w w' : World} {Bk : Nat → Prop} {A : Option Addr} {xs : List Int} {B : Nat} (h : KAt kd w Bk A xs) (hb : Below B w w') (hB : ∀ b, Bk b → b < B) : KAt kd w' Bk A xs := by
  intro i x hx
  obtain ⟨b, o, rfl, hbk, hc⟩ := h i x hx
  exact ⟨b, o, rfl, hbk, (hb.cell (p := ⟨b, o + i, none⟩) (hB b hbk)).trans hc⟩
theorem KAt.mono {kd : IntKind} {w : World} {Bk Bk' : Nat → Prop} {A : Option Addr} {xs : List Int} (h : KAt kd w Bk A xs) (hk : ∀ b, Bk b → Bk' b) : KAt kd w Bk' A xs := by
  intro i x hx
  obtain ⟨b, o, hA, hbk, hc⟩ := h i x hx
  exact ⟨b, o, hA, hk b hbk, hc⟩
section
variable (w0 : World)
set_option maxRecDepth 100000 in
theorem turnPlays_any (c : Cf) (up : List (List Int)) (hun : c.un = up.length) (hU : UpAt w0 (fun b => b < w0.heap.size) c.ua up) (hlen : up.length ≤ maxLen) (hll : ∀ l ∈ up, l.length ≤ maxLen) (hst : 0 ≤ c.start ∧ c.start ≤ 18446744073709551615)
    (A : Option Addr) (xs : List Int) (xc : Nat) (hA : KAt .u8 w0 (fun b => b < w0.heap.size) A xs) (hx : ∀ x ∈ xs, 0 ≤ x ∧ x < 256) :
    Calls Tryz.prog 3 #[.agg c.vs.toArray, .slice A xs.length xc] w0 fun e w' => e = .returned (.bool true) ∧ Below w0.heap.size w0 w' := by
  have HV := Lib.hid live18
  have hlo := fun W (hW : Below w0.heap.size w0 W) => llongB _ up c.ua c.uc hlen hll W (hU.below hW (fun b hb => hb))
  by_cases hs : ShortUp up
  · have hsb : (!decide (ShortUp up)) = false := by simp [hs]
    simp only [hsb] at hlo
    have hll6 : ∀ l ∈ up, l.length ≤ 1000000 := fun l hl => by have := hs.2 l hl; omega
    have hlen6 : up.length ≤ 1000000 := by have := hs.1; omega
    by_cases hxl : 300 < xs.length
    · have hxi : (300 : Int) < xs.length := by omega
      obtain ⟨variant, width, cap, producers, start, ua, un, uc⟩ := c
      unfold Cf.vs at *
      dsimp only at *
      subst hun
      have HLO := Lib.hid hlo
      clear hlo hU hll hlen hll6 hlen6 hs hsb hst hA hx hxl
      go_enter Tryz.func3, Tryz.ntmps3
      go_wp2_with (first | (go_at_call 6; refine (HLO.out _ (by (repeat (with_reducible first | exact Below.refl _ _ | refine Below.drew ?_ | refine below_drewN ?_ _ | refine Below.setCell ?_ ?_ _ | refine Below.alloc ?_ ?_ _)); all_goals first | omega | (dsimp only; omega) | (simp; omega))).mono ?_; rintro e w' ⟨rfl, rfl⟩) | (go_at_call 8; refine (HV.out _).mono ?_; rintro e w9 ⟨rfl, hb9⟩; have HB9 := Lib.hid hb9; clear hb9))
      go_ret
      exact ⟨rfl, below_new HB9.out⟩
    · have hri := fun W (hW : Below w0.heap.size w0 W) => rrightOf _ c up hun hlen6 hll6 W (fun b hb => Nat.lt_of_lt_of_le hb hW.size) (hU.below hW (fun b hb => hb))
      have hxi : ¬ (300 : Int) < xs.length := by omega
      by_cases hc : confCode c up = 0
      · have hok := cfOk_of_code hc
        simp only [show (confCode c up == 0) = true by simp [hc]] at hri
        have hwd := hok.width
        by_cases hwid : c.width = 32
        · have hpl := fun W (hW : Below w0.heap.size w0 W) => played18_32 c up hun hok hll6 hst hwid xs hx (by omega) A xc W ((hU.below hW (fun b hb => hb)).mono (fun b hb => Nat.lt_of_lt_of_le hb hW.size)) ((hA.below hW (fun b hb => hb)).mono (fun b hb => Nat.lt_of_lt_of_le hb hW.size))
          obtain ⟨variant, width, cap, producers, start, ua, un, uc⟩ := c
          unfold Cf.vs at *
          dsimp only at *
          subst hun
          subst hwid
          have HLO := Lib.hid hlo
          have HRI := Lib.hid hri
          have HPL := Lib.hid hpl
          clear hlo hri hpl hU hll hlen hll6 hlen6 hs hsb hst hc hok hA hx hwd
          go_enter Tryz.func3, Tryz.ntmps3
          go_wp2_with (first | (go_at_call 6; refine (HLO.out _ (by (repeat (with_reducible first | exact Below.refl _ _ | refine Below.drew ?_ | refine below_drewN ?_ _ | refine Below.setCell ?_ ?_ _ | refine Below.alloc ?_ ?_ _)); all_goals first | omega | (dsimp only; omega) | (simp; omega))).mono ?_; rintro e w' ⟨rfl, rfl⟩) | (go_at_call 7; refine (HRI.out _ (by (repeat (with_reducible first | exact Below.refl _ _ | refine Below.drew ?_ | refine below_drewN ?_ _ | refine Below.setCell ?_ ?_ _ | refine Below.alloc ?_ ?_ _)); all_goals first | omega | (dsimp only; omega) | (simp; omega))).mono ?_; rintro e w2 ⟨rfl, hb2⟩; obtain ⟨hc2, hf2⟩ := bcell hb2; have hz2 := hb2.size; have HCF2 := Lib.hid ((Blk.new w0 25 _).below hb2 (by simp)); have HB2 := Lib.hid hb2; clear hb2) | (go_at_call 9; have hq := HPL.out _ (((Below.refl w0.heap.size w0).alloc (Nat.le_refl _) _).trans (HB2.out.mono (by simp))); refine hq.mono ?_; clear hq; rintro e w3 ⟨rfl, hb3⟩; have HB3 := Lib.hid (HB2.out.trans (hb3.mono HB2.out.size)); clear hb3) | (go_at_call 8; refine (HV.out _).mono ?_; rintro e w9 ⟨rfl, hb9⟩; have HB9 := Lib.hid hb9; clear hb9))
          go_ret
          exact ⟨rfl, below_new (HB3.out.trans (HB9.out.mono HB3.out.size))⟩
        · have hw64 : c.width = 64 := by omega
          clear hwid
          have hpl := fun W (hW : Below w0.heap.size w0 W) => played18_64 c up hun hok hll6 hst hw64 xs hx (by omega) A xc W ((hU.below hW (fun b hb => hb)).mono (fun b hb => Nat.lt_of_lt_of_le hb hW.size)) ((hA.below hW (fun b hb => hb)).mono (fun b hb => Nat.lt_of_lt_of_le hb hW.size))
          obtain ⟨variant, width, cap, producers, start, ua, un, uc⟩ := c
          unfold Cf.vs at *
          dsimp only at *
          subst hun
          subst hw64
          have HLO := Lib.hid hlo
          have HRI := Lib.hid hri
          have HPL := Lib.hid hpl
          clear hlo hri hpl hU hll hlen hll6 hlen6 hs hsb hst hc hok hA hx hwd
          go_enter Tryz.func3, Tryz.ntmps3
          go_wp2_with (first | (go_at_call 6; refine (HLO.out _ (by (repeat (with_reducible first | exact Below.refl _ _ | refine Below.drew ?_ | refine below_drewN ?_ _ | refine Below.setCell ?_ ?_ _ | refine Below.alloc ?_ ?_ _)); all_goals first | omega | (dsimp only; omega) | (simp; omega))).mono ?_; rintro e w' ⟨rfl, rfl⟩) | (go_at_call 7; refine (HRI.out _ (by (repeat (with_reducible first | exact Below.refl _ _ | refine Below.drew ?_ | refine below_drewN ?_ _ | refine Below.setCell ?_ ?_ _ | refine Below.alloc ?_ ?_ _)); all_goals first | omega | (dsimp only; omega) | (simp; omega))).mono ?_; rintro e w2 ⟨rfl, hb2⟩; obtain ⟨hc2, hf2⟩ := bcell hb2; have hz2 := hb2.size; have HCF2 := Lib.hid ((Blk.new w0 25 _).below hb2 (by simp)); have HB2 := Lib.hid hb2; clear hb2) | (go_at_call 10; have hq := HPL.out _ (((Below.refl w0.heap.size w0).alloc (Nat.le_refl _) _).trans (HB2.out.mono (by simp))); refine hq.mono ?_; clear hq; rintro e w3 ⟨rfl, hb3⟩; have HB3 := Lib.hid (HB2.out.trans (hb3.mono HB2.out.size)); clear hb3) | (go_at_call 8; refine (HV.out _).mono ?_; rintro e w9 ⟨rfl, hb9⟩; have HB9 := Lib.hid hb9; clear hb9))
          go_ret
          exact ⟨rfl, below_new (HB3.out.trans (HB9.out.mono HB3.out.size))⟩
      · simp only [show (confCode c up == 0) = false by simp [hc]] at hri
        obtain ⟨variant, width, cap, producers, start, ua, un, uc⟩ := c
        unfold Cf.vs at *
        dsimp only at *
        subst hun
        have HLO := Lib.hid hlo
        have HRI := Lib.hid hri
        clear hlo hri hU hll hlen hll6 hlen6 hs hsb hst hc hA hx
        go_enter Tryz.func3, Tryz.ntmps3
        go_wp2_with (first | (go_at_call 6; refine (HLO.out _ (by (repeat (with_reducible first | exact Below.refl _ _ | refine Below.drew ?_ | refine below_drewN ?_ _ | refine Below.setCell ?_ ?_ _ | refine Below.alloc ?_ ?_ _)); all_goals first | omega | (dsimp only; omega) | (simp; omega))).mono ?_; rintro e w' ⟨rfl, rfl⟩) | (go_at_call 7; refine (HRI.out _ (by (repeat (with_reducible first | exact Below.refl _ _ | refine Below.drew ?_ | refine below_drewN ?_ _ | refine Below.setCell ?_ ?_ _ | refine Below.alloc ?_ ?_ _)); all_goals first | omega | (dsimp only; omega) | (simp; omega))).mono ?_; rintro e w2 ⟨rfl, hb2⟩; obtain ⟨hc2, hf2⟩ := bcell hb2; have hz2 := hb2.size; have HCF2 := Lib.hid ((Blk.new w0 25 _).below hb2 (by simp)); have HB2 := Lib.hid hb2; clear hb2) | (go_at_call 8; refine (HV.out _).mono ?_; rintro e w9 ⟨rfl, hb9⟩; have HB9 := Lib.hid hb9; clear hb9))
        go_ret
        exact ⟨rfl, below_new (HB2.out.trans (HB9.out.mono HB2.out.size))⟩
  · simp only [show (!decide (ShortUp up)) = true by simp [hs]] at hlo
    obtain ⟨variant, width, cap, producers, start, ua, un, uc⟩ := c
    unfold Cf.vs at *
    dsimp only at *
    subst hun
    have HLO := Lib.hid hlo
    clear hlo hU hll hlen hs hst hA hx
    go_enter Tryz.func3, Tryz.ntmps3
    go_wp2_with (first | (go_at_call 6; refine (HLO.out _ (by (repeat (with_reducible first | exact Below.refl _ _ | refine Below.drew ?_ | refine below_drewN ?_ _ | refine Below.setCell ?_ ?_ _ | refine Below.alloc ?_ ?_ _)); all_goals first | omega | (dsimp only; omega) | (simp; omega))).mono ?_; rintro e w' ⟨rfl, rfl⟩) | (go_at_call 8; refine (HV.out _).mono ?_; rintro e w9 ⟨rfl, hb9⟩; have HB9 := Lib.hid hb9; clear hb9))
    go_ret
    exact ⟨rfl, below_new HB9.out⟩
end
end Go.Proofs.YtmjpdojecdnkjaaGreat
