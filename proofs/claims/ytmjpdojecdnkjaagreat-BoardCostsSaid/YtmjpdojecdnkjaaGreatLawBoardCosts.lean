/- sakialaw12.BoardCosts returns true for every input, and changes nothing. -/
import Derived.Test.YtmjpdojecdnkjaaGreatRefG
import Derived.Test.YtmjpdojecdnkjaaGreatRefNew
import Derived.Test.YtmjpdojecdnkjaaGreatItsR
import Derived.Test.YtmjpdojecdnkjaaGreatLive12
import Derived.Test.YtmjpdojecdnkjaaGreatOpenD
import Derived.Test.YtmjpdojecdnkjaaGreatGuard
import Derived.Test.YtmjpdojecdnkjaaGreatTurnPlays
import Derived.Test.YtmjpdojecdnkjaaGreatOpenD
import Derived.Test.YtmjpdojecdnkjaaGreatRows
namespace Go.Proofs.YtmjpdojecdnkjaaGreat
open Go.RowKit
set_option linter.unusedVariables false
set_option maxHeartbeats 400000
section
set_option linter.unusedSimpArgs false
set_option maxHeartbeats 4000000

section
variable (w0 : World)
set_option maxRecDepth 100000 in
theorem boardCosts_any (c : Cf) (up : List (List Int)) (hun : c.un = up.length) (hU : UpAt w0 (fun b => b < w0.heap.size) c.ua up) (hlen : up.length ≤ maxLen) (hll : ∀ l ∈ up, l.length ≤ maxLen) (hst : 0 ≤ c.start ∧ c.start ≤ 18446744073709551615)
    (A : Option Addr) (ds : List (List Int)) (xc : Nat) (hA : DosAt w0 (fun b => b < w0.heap.size) [.i64, .i64, .i64, .i64, .u64, .u64] A ds) (hd6 : ∀ d ∈ ds, d.length = [IntKind.i64, IntKind.i64, IntKind.i64, IntKind.i64, IntKind.u64, IntKind.u64].length ∧ ∀ (j : Nat) (k : IntKind) (x : Int), [IntKind.i64, IntKind.i64, IntKind.i64, IntKind.i64, IntKind.u64, IntKind.u64][j]? = some k → d[j]? = some x → (Lit.int k x).wf = true) (a2 : Int) :
    Calls Tryz.prog 4 #[.agg c.vs.toArray, .slice A ds.length xc, .int .i64 a2] w0 fun e w' => e = .returned (.bool true) ∧ Below w0.heap.size w0 w' := by
  have HV := Lib.hid live12
  have hlo := fun W (hW : Below w0.heap.size w0 W) => llongB _ up c.ua c.uc hlen hll W (hU.below hW (fun b hb => hb))
  by_cases hs : ShortUp up
  · have hsb : (!decide (ShortUp up)) = false := by simp [hs]
    simp only [hsb] at hlo
    have hll6 : ∀ l ∈ up, l.length ≤ 1000000 := fun l hl => by have := hs.2 l hl; omega
    have hlen6 : up.length ≤ 1000000 := by have := hs.1; omega
    by_cases hxl : 200 < ds.length
    · have hxi : (200 : Int) < ds.length := by omega
      obtain ⟨variant, width, cap, producers, start, ua, un, uc⟩ := c
      unfold Cf.vs at *
      dsimp only at *
      subst hun
      have HLO := Lib.hid hlo
      clear hlo hU hll hlen hll6 hlen6 hs hsb hst hxl hA hd6
      go_enter Tryz.func4, Tryz.ntmps4
      go_wp2_with (first | (go_at_call 6; refine (HLO.out _ (by (repeat (with_reducible first | exact Below.refl _ _ | refine Below.drew ?_ | refine below_drewN ?_ _ | refine Below.setCell ?_ ?_ _ | refine Below.alloc ?_ ?_ _)); all_goals first | omega | (dsimp only; omega) | (simp; omega))).mono ?_; rintro e w' ⟨rfl, rfl⟩) | (go_at_call 11; refine (HV.out _).mono ?_; rintro e w9 ⟨rfl, hb9⟩; have HB9 := Lib.hid hb9; clear hb9))
      go_ret
      exact ⟨rfl, below_new HB9.out⟩
    · have hri := fun W (hW : Below w0.heap.size w0 W) => rrightOf _ c up hun hlen6 hll6 W (fun b hb => Nat.lt_of_lt_of_le hb hW.size) (hU.below hW (fun b hb => hb))
      have hxi : ¬ (200 : Int) < ds.length := by omega
      have hxn : ds.length ≤ 200 := by omega
      by_cases hc : confCode c up = 0
      · have hok := cfOk_of_code hc
        simp only [show (confCode c up == 0) = true by simp [hc]] at hri
        by_cases hwid : c.width = 64
        · obtain ⟨variant, width, cap, producers, start, ua, un, uc⟩ := c
          unfold Cf.vs at *
          dsimp only at *
          subst hwid
          have HLO := Lib.hid hlo
          have HRI := Lib.hid hri
          have hvar := hok.variant
          have hcap := hok.cap
          have HOF := Lib.hid (fun W (hW : Below w0.heap.size w0 W) => layof (fun b => b < w0.heap.size) ⟨variant, 64, cap, producers, start, ua, un, uc⟩ up hun hok hll6 W (fun b hb => Nat.lt_of_lt_of_le hb hW.size) (hU.below hW (fun b hb => hb)))
          have HNW := Lib.hid (fun (Bk : Nat → Prop) ua uc W hB hU => bnew64 Bk ⟨variant, 64, cap, producers, start, ua, un, uc⟩ up hun (hok.ua ua uc) rfl hst hll6 W hB hU)
          have HFT := Lib.hid (fun ua uc => newBS_fit ⟨variant, 64, cap, producers, start, ua, un, uc⟩ (hok.ua ua uc) hun)
          have HRN := Lib.hid (fun W => rnew12 ⟨variant, 64, cap, producers, start, ua, un, uc⟩ hok hun hst W)
          have HVC := Lib.hid (And.intro hvar hcap)
          unfold Cf.vs at HOF HRN
          unfold Lay.vs at HNW
          dsimp only at HOF HRN HNW HFT HVC
          subst hun
          have HAX := Lib.hid (And.intro hA hd6)
          have HXN := Lib.hid hxn
          clear hlo hri hU hll hlen hll6 hlen6 hs hsb hst hc hok hcap hvar hA hd6
          go_enter Tryz.func4, Tryz.ntmps4
          go_wp2_with (first | (go_at_call 6; refine (HLO.out _ (by (repeat (with_reducible first | exact Below.refl _ _ | refine Below.drew ?_ | refine below_drewN ?_ _ | refine Below.setCell ?_ ?_ _ | refine Below.alloc ?_ ?_ _)); all_goals first | omega | (dsimp only; omega) | (simp; omega))).mono ?_; rintro e w' ⟨rfl, rfl⟩) | (go_at_call 7; refine (HRI.out _ (by (repeat (with_reducible first | exact Below.refl _ _ | refine Below.drew ?_ | refine below_drewN ?_ _ | refine Below.setCell ?_ ?_ _ | refine Below.alloc ?_ ?_ _)); all_goals first | omega | (dsimp only; omega) | (simp; omega))).mono ?_; rintro e w2 ⟨rfl, hb2⟩; obtain ⟨hc2, hf2⟩ := bcell hb2; have hz2 := hb2.size; have HCF2 := Lib.hid ((Blk.new w0 25 _).below hb2 (by simp)); have HB2 := Lib.hid hb2; clear hb2) | (go_at_call 11; refine (HV.out _).mono ?_; rintro e w9 ⟨rfl, hb9⟩; have HB9 := Lib.hid hb9; clear hb9) | (go_at_call 12; have hW1 := (((Below.refl w0.heap.size w0).alloc (Nat.le_refl _) _).trans (HB2.out.mono (by simp))); have hq := HOF.out _ hW1; refine hq.mono ?_; clear hq; rintro e w3 ⟨A3, c3, rfl, hcl3, hU3, hb3⟩; unfold Lay.vs; obtain ⟨hc3, hf3⟩ := bcell hb3; have HU3 := Lib.hid hU3; have hz3 := hb3.size; have HW3 := Lib.hid (hW1.trans (hb3.mono hW1.size)); have HCF3 := Lib.hid (HCF2.out.below hb3 HCF2.out.lt); obtain ⟨u0, u1, u2, u3, u4, u5⟩ := blk_cells6 HCF3.out; have hu6 : w0.heap.size < w3.heap.size := HCF3.out.lt; have hu7 : w0.heap.size < w3.heap.size + 1 := Nat.lt_succ_of_lt hu6; clear hU3 hb3 hcl3 hW1))
          go_region_held3 (fun w' => w'.cell? ⟨w0.heap.size, 0, none⟩ = some (.int .i64 variant) ∧ w'.cell? ⟨w0.heap.size, 1, none⟩ = some (.int .i64 64) ∧ w'.cell? ⟨w0.heap.size, 2, none⟩ = some (.int .i64 cap) ∧ w'.cell? ⟨w0.heap.size, 3, none⟩ = some (.int .i64 producers) ∧ w'.cell? ⟨w0.heap.size, 4, none⟩ = some (.int .u64 start) ∧ w'.cell? ⟨w0.heap.size, 5, none⟩ = some (.slice ua up.length uc)
              ∧ w'.cell? ⟨w3.heap.size, 0, none⟩ = some (.int .i64 (mkLay ⟨variant, 64, cap, producers, start, A3, up.length, c3⟩).c.variant) ∧ w'.cell? ⟨w3.heap.size, 1, none⟩ = some (.int .i64 (mkLay ⟨variant, 64, cap, producers, start, A3, up.length, c3⟩).c.width) ∧ w'.cell? ⟨w3.heap.size, 2, none⟩ = some (.int .i64 (mkLay ⟨variant, 64, cap, producers, start, A3, up.length, c3⟩).c.cap) ∧ w'.cell? ⟨w3.heap.size, 3, none⟩ = some (.int .i64 (mkLay ⟨variant, 64, cap, producers, start, A3, up.length, c3⟩).c.producers) ∧ w'.cell? ⟨w3.heap.size, 4, none⟩ = some (.int .u64 (mkLay ⟨variant, 64, cap, producers, start, A3, up.length, c3⟩).c.start) ∧ w'.cell? ⟨w3.heap.size, 5, none⟩ = some (.slice (mkLay ⟨variant, 64, cap, producers, start, A3, up.length, c3⟩).c.ua (mkLay ⟨variant, 64, cap, producers, start, A3, up.length, c3⟩).c.un (mkLay ⟨variant, 64, cap, producers, start, A3, up.length, c3⟩).c.uc) ∧ w'.cell? ⟨w3.heap.size, 6, none⟩ = some (.int .i64 (mkLay ⟨variant, 64, cap, producers, start, A3, up.length, c3⟩).cursor) ∧ w'.cell? ⟨w3.heap.size, 7, none⟩ = some (.int .i64 (mkLay ⟨variant, 64, cap, producers, start, A3, up.length, c3⟩).claim) ∧ w'.cell? ⟨w3.heap.size, 8, none⟩ = some (.int .i64 (mkLay ⟨variant, 64, cap, producers, start, A3, up.length, c3⟩).ticket) ∧ w'.cell? ⟨w3.heap.size, 9, none⟩ = some (.int .i64 (mkLay ⟨variant, 64, cap, producers, start, A3, up.length, c3⟩).serving) ∧ w'.cell? ⟨w3.heap.size, 10, none⟩ = some (.int .i64 (mkLay ⟨variant, 64, cap, producers, start, A3, up.length, c3⟩).next) ∧ w'.cell? ⟨w3.heap.size, 11, none⟩ = some (.int .i64 (mkLay ⟨variant, 64, cap, producers, start, A3, up.length, c3⟩).marks) ∧ w'.cell? ⟨w3.heap.size, 12, none⟩ = some (.int .i64 (mkLay ⟨variant, 64, cap, producers, start, A3, up.length, c3⟩).slots) ∧ w'.cell? ⟨w3.heap.size, 13, none⟩ = some (.int .i64 (mkLay ⟨variant, 64, cap, producers, start, A3, up.length, c3⟩).cells)) (go_keep)
            (first | (go_at_call 13; refine (HNW.out _ A3 c3 _ (by intro b hb; have := hb.2; simp; omega) (HU3.out.below (B := w3.heap.size) (by (repeat (with_reducible first | exact Below.refl _ _ | refine Below.drew ?_ | refine below_drewN ?_ _ | refine Below.setCell ?_ ?_ _ | refine Below.alloc ?_ ?_ _)); all_goals first | omega | (dsimp only; omega) | (simp; omega)) (fun b hb => hb.2))).mono ?_; intro e w4 hN; obtain ⟨p, γ4, rfl, hb4, hp4, hB4, hO4, hl4⟩ := new_old 110 (w0 := w0) (by (repeat (with_reducible first | exact HW3.out | refine Below.drew ?_ | refine below_drewN ?_ _ | refine Below.alloc ?_ ?_ _)); all_goals first | exact HW3.out.size | (have := HW3.out.size; simp; omega)) hN; obtain ⟨hc4, hf4⟩ := bcell hb4; have hz4 : w3.heap.size < w4.heap.size := Nat.lt_of_lt_of_le (by simp) hb4.size; have hy4 : w0.heap.size < w4.heap.size := Nat.lt_trans hu6 hz4; have HB4 := Lib.hid hb4; have HN4 := Lib.hid (And.intro hB4 (And.intro hO4 hp4)); clear hN hb4 hp4 hB4 hO4 hl4) | (go_at_call 14; refine (HRN.out _).mono ?_; intro e w5 hN; obtain ⟨q, rfl, hb5, _, hRR⟩ := refNew_at (c1 := ⟨variant, 64, cap, producers, start, A3, up.length, c3⟩) HVC.out.1 HVC.out.2 rfl hN; obtain ⟨hc5, hf5⟩ := bcell hb5; have hz5 : w4.heap.size ≤ w5.heap.size := Nat.le_trans (by simp) hb5.size; have hp5 := pp5 HN4.out.2.1 HN4.out.1 (by (repeat (with_reducible first | exact Below.refl _ _ | refine Below.drew ?_ | refine below_drewN ?_ _ | refine Below.setCell ?_ ?_ _ | refine Below.alloc ?_ ?_ _)); all_goals first | omega | (dsimp only; omega) | (simp; omega)) hRR; obtain ⟨γ5, hq5⟩ := hp5; have HP5 := Lib.hid (its_pair hq5.1 hq5.2.1 hq5.2.2); clear hN hb5 hRR hq5))
          go_wp2_with fail
          go_loopw [11] (fun i wr => ∃ (k : Nat) (γ : Nat → Nat) (b : BS), i = .int .i64 k ∧ k ≤ ds.length ∧ Its w0 (fun _ => 0) NoId [itB 97 22 110 .u64 1 p b, itR 4 q ⟨variant, 64, cap, producers, start, ua, up.length, uc⟩ b] wr γ ∧ b.Fit M64 ∧ b.log.length ≤ k) (fun i _ => ds.length - (intOf i).toNat)
          case atStart => exact ⟨0, γ5, _, rfl, by omega, HP5.out, HFT.out A3 c3, Nat.le_refl _⟩
          case round =>
            obtain ⟨k, γ, b, rfl, hk, hits, hfit, hlg⟩ := hrel
            have hbw : Below w0.heap.size w0 wr := hits.bel
            by_cases hlt : k < ds.length
            · have hkx : (k : Int) < ds.length := by omega
              have hgx := List.getElem?_eq_getElem hlt
              have hxb := HAX.out.2 _ (List.getElem_mem hlt)
              generalize ds[k] = dd at hgx hxb
              obtain ⟨hd2, ab, ao, rfl, hab, hac⟩ := HAX.out.1 k dd hgx
              match dd, hd2 with
              | [dt, dk, dc, dn, do_, dv], _ =>
              have hw3 := bounds_i64 (hxb.2 3 .i64 dn rfl rfl)
              have hw4 := bounds_u64 (hxb.2 4 .u64 do_ rfl rfl)
              have hw5 := bounds_u64 (hxb.2 5 .u64 dv rfl rfl)
              have hac0 := hac 0 .i64 dt rfl rfl
              have hac1 := hac 1 .i64 dk rfl rfl
              have hac2 := hac 2 .i64 dc rfl rfl
              have hac3 := hac 3 .i64 dn rfl rfl
              have hac4 := hac 4 .u64 do_ rfl rfl
              have hac5 := hac 5 .u64 dv rfl rfl
              have HARG := Lib.hid (fun W (hW : Below w0.heap.size w0 W) => And.intro ((hW.cell (p := ⟨ab, ao + k * 6, none⟩) hab).trans hac0) (And.intro ((hW.cell (p := ⟨ab, ao + k * 6 + 1, none⟩) hab).trans hac1) (And.intro ((hW.cell (p := ⟨ab, ao + k * 6 + 2, none⟩) hab).trans hac2) (And.intro ((hW.cell (p := ⟨ab, ao + k * 6 + 3, none⟩) hab).trans hac3) (And.intro ((hW.cell (p := ⟨ab, ao + k * 6 + 4, none⟩) hab).trans hac4) ((hW.cell (p := ⟨ab, ao + k * 6 + 5, none⟩) hab).trans hac5))))))
              obtain ⟨ha0, ha1, ha2, ha3, ha4, ha5⟩ := HARG.out wr hbw
              have HSM := Lib.hid (fun W (hW : Below wr.heap.size wr W) => great12 W γ 1 p b (hits.below hW).g0 hfit (by have := HXN.out; omega) dt dk dc dn do_ dv hw4 hw5)
              have HMO := Lib.hid (fun W γ' b' (hW : Its w0 (fun _ => 0) NoId [itB 97 22 110 .u64 1 p b', itR 4 q ⟨variant, 64, cap, producers, start, ua, up.length, uc⟩ b] W γ') => model12 W γ' 4 q ⟨variant, 64, cap, producers, start, ua, up.length, uc⟩ b hW.g1 hfit (by have := HXN.out; omega) (.inr rfl) (by exact MW_64.symm) dt dk dc dn do_ dv hw4 hw5)
              have HPL := Lib.hid (And.intro (stepP_fit hfit dt dk dc dn do_ dv hw3) (stepP_log M64 b dt dk dc dn do_ dv))
              generalize stepP M64 b dt dk dc dn do_ dv = r at HSM HPL HMO
              obtain ⟨⟨r1, r2⟩, b2⟩ := r
              dsimp only at HSM HPL HMO
              have HI := Lib.hid hits
              have HLG := Lib.hid hlg
              clear hac hgx hxb hfit hlg hits hw3 hw4 hw5 hac0 hac1 hac2 hac3 hac4 hac5
              go_wp2_with (first
                | (go_at_call 16; refine (HMO.out _ _ _ (HI8.out.below (by (repeat (with_reducible first | exact Below.refl _ _ | refine Below.drew ?_ | refine below_drewN ?_ _ | refine Below.setCell ?_ ?_ _ | refine Below.alloc ?_ ?_ _)); all_goals first | omega | (dsimp only; omega) | (simp; omega)))).mono ?_; rintro e w9 ⟨rfl, γ9, hR9, hfr9⟩; have HI9 := Lib.hid ((HI8.out.below (by (repeat (with_reducible first | exact Below.refl _ _ | refine Below.drew ?_ | refine below_drewN ?_ _ | refine Below.setCell ?_ ?_ _ | refine Below.alloc ?_ ?_ _)); all_goals first | omega | (dsimp only; omega) | (simp; omega))).s1 (y := itR 4 q ⟨variant, 64, cap, producers, start, ua, up.length, uc⟩ b2) rfl hfr9 hR9); clear hR9 hfr9)
                | (go_at_call 15; refine (HSM.out _ (by (repeat (with_reducible first | exact Below.refl _ _ | refine Below.drew ?_ | refine below_drewN ?_ _ | refine Below.setCell ?_ ?_ _ | refine Below.alloc ?_ ?_ _)); all_goals first | omega | (dsimp only; omega) | (simp; omega))).mono ?_; rintro e w8 ⟨rfl, γ8, hB8, hfr8⟩; have hi8 := (HI.out.below (by (repeat (with_reducible first | exact Below.refl _ _ | refine Below.drew ?_ | refine below_drewN ?_ _ | refine Below.setCell ?_ ?_ _ | refine Below.alloc ?_ ?_ _)); all_goals first | omega | (dsimp only; omega) | (simp; omega))).s0 (y := itB 97 22 110 .u64 1 p b2) rfl hfr8 hB8; obtain ⟨e0, e1, e2, e3, e4, e5⟩ := HARG.out w8 hi8.bel; have HI8 := Lib.hid hi8; clear hB8 hfr8 hi8))
              go_round
              case rel => exact ⟨k + 1, γ9, b2, by go_num, by omega, HI9.out, HPL.out.1, by have := HPL.out.2; have := HLG.out; omega⟩
              case measure => simp only [intOf]; omega
            · have HLN := Lib.hid (show b.log.length ≤ 200 by have := HXN.out; omega)
              have HI := Lib.hid hits
              obtain ⟨rc, cv, hv2, lv, hRF, hRR⟩ := hits.g1
              obtain ⟨AL, cL, rfl, _⟩ := own_form hRF.log.1
              have hlg8 : wr.cell? ⟨q, 8, none⟩ = some (.slice AL b.log.length cL) := hRF.brd.cell 8
              have HCO := Lib.hid (rCost b.log (by have := HLN.out; omega) AL cL wr (Reads.of_own hRF.log.1) a2)
              have HBC := Lib.hid (fun W (hW : Its w0 (fun _ => 0) NoId [itB 97 22 110 .u64 1 p b, itR 4 q ⟨variant, 64, cap, producers, start, ua, up.length, uc⟩ b] W γ) => bCost64 W γ 1 p b hW.g0 HLN.out a2)
              have HLE := Lib.hid (costN_le b.log a2 b.log.length)
              generalize costN b.log a2 b.log.length = nm at *
              obtain ⟨n, m⟩ := nm
              dsimp only at HBC HCO HLE
              clear hits hfit hlg hRF hRR
              go_wp2_with (first
                | (go_at_call 11; refine (HV.out _).mono ?_; rintro e w9 ⟨rfl, hb9⟩; have HB9 := Lib.hid (HI23.out.below hb9); clear hb9)
                | (go_at_call 20; refine (pSecond HPR2.out _).mono ?_; rintro e w' ⟨rfl, rfl⟩)
                | (go_at_call 18; refine (pFirst HPR1.out _).mono ?_; rintro e w' ⟨rfl, rfl⟩)
                | (go_at_call 19; refine (HBC.out _ (HI22.out.below (by (repeat (with_reducible first | exact Below.refl _ _ | refine Below.drew ?_ | refine below_drewN ?_ _ | refine Below.setCell ?_ ?_ _ | refine Below.alloc ?_ ?_ _)); all_goals first | omega | (dsimp only; omega) | (simp; omega)))).mono ?_; rintro e w23 ⟨x2, y2, hpr, rfl, hb23⟩; have HPR2 := Lib.hid hpr; have HI23 := Lib.hid ((HI22.out.below (by (repeat (with_reducible first | exact Below.refl _ _ | refine Below.drew ?_ | refine below_drewN ?_ _ | refine Below.setCell ?_ ?_ _ | refine Below.alloc ?_ ?_ _)); all_goals first | omega | (dsimp only; omega) | (simp; omega))).below hb23); clear hpr hb23)
                | (go_at_call 19; refine (HBC.out _ (HI21.out.below (by (repeat (with_reducible first | exact Below.refl _ _ | refine Below.drew ?_ | refine below_drewN ?_ _ | refine Below.setCell ?_ ?_ _ | refine Below.alloc ?_ ?_ _)); all_goals first | omega | (dsimp only; omega) | (simp; omega)))).mono ?_; rintro e w22 ⟨x1, y1, hpr, rfl, hb22⟩; have HPR1 := Lib.hid hpr; have HI22 := Lib.hid ((HI21.out.below (by (repeat (with_reducible first | exact Below.refl _ _ | refine Below.drew ?_ | refine below_drewN ?_ _ | refine Below.setCell ?_ ?_ _ | refine Below.alloc ?_ ?_ _)); all_goals first | omega | (dsimp only; omega) | (simp; omega))).below hb22); clear hpr hb22)
                | (go_at_call 17; refine HCO.out.mono ?_; rintro e w21 ⟨rfl, hb21⟩; have HI21 := Lib.hid (HI.out.below hb21); clear hb21))
              go_ret
              exact ⟨rfl, HB9.out.bel⟩
        · have hwb : (c.width != 64) = true := by simp [hwid]
          obtain ⟨variant, width, cap, producers, start, ua, un, uc⟩ := c
          unfold Cf.vs at *
          dsimp only at *
          subst hun
          have HLO := Lib.hid hlo
          have HRI := Lib.hid hri
          clear hlo hri hU hll hlen hll6 hlen6 hs hsb hst hc hok hwid hA hd6
          go_enter Tryz.func4, Tryz.ntmps4
          go_wp2_with (first | (go_at_call 6; refine (HLO.out _ (by (repeat (with_reducible first | exact Below.refl _ _ | refine Below.drew ?_ | refine below_drewN ?_ _ | refine Below.setCell ?_ ?_ _ | refine Below.alloc ?_ ?_ _)); all_goals first | omega | (dsimp only; omega) | (simp; omega))).mono ?_; rintro e w' ⟨rfl, rfl⟩) | (go_at_call 7; refine (HRI.out _ (by (repeat (with_reducible first | exact Below.refl _ _ | refine Below.drew ?_ | refine below_drewN ?_ _ | refine Below.setCell ?_ ?_ _ | refine Below.alloc ?_ ?_ _)); all_goals first | omega | (dsimp only; omega) | (simp; omega))).mono ?_; rintro e w2 ⟨rfl, hb2⟩; obtain ⟨hc2, hf2⟩ := bcell hb2; have hz2 := hb2.size; have HCF2 := Lib.hid ((Blk.new w0 25 _).below hb2 (by simp)); have HB2 := Lib.hid hb2; clear hb2) | (go_at_call 11; refine (HV.out _).mono ?_; rintro e w9 ⟨rfl, hb9⟩; have HB9 := Lib.hid hb9; clear hb9))
          go_ret
          exact ⟨rfl, below_new (HB2.out.trans (HB9.out.mono HB2.out.size))⟩
      · simp only [show (confCode c up == 0) = false by simp [hc]] at hri
        obtain ⟨variant, width, cap, producers, start, ua, un, uc⟩ := c
        unfold Cf.vs at *
        dsimp only at *
        subst hun
        have HLO := Lib.hid hlo
        have HRI := Lib.hid hri
        clear hlo hri hU hll hlen hll6 hlen6 hs hsb hst hc hA hd6
        go_enter Tryz.func4, Tryz.ntmps4
        go_wp2_with (first | (go_at_call 6; refine (HLO.out _ (by (repeat (with_reducible first | exact Below.refl _ _ | refine Below.drew ?_ | refine below_drewN ?_ _ | refine Below.setCell ?_ ?_ _ | refine Below.alloc ?_ ?_ _)); all_goals first | omega | (dsimp only; omega) | (simp; omega))).mono ?_; rintro e w' ⟨rfl, rfl⟩) | (go_at_call 7; refine (HRI.out _ (by (repeat (with_reducible first | exact Below.refl _ _ | refine Below.drew ?_ | refine below_drewN ?_ _ | refine Below.setCell ?_ ?_ _ | refine Below.alloc ?_ ?_ _)); all_goals first | omega | (dsimp only; omega) | (simp; omega))).mono ?_; rintro e w2 ⟨rfl, hb2⟩; obtain ⟨hc2, hf2⟩ := bcell hb2; have hz2 := hb2.size; have HCF2 := Lib.hid ((Blk.new w0 25 _).below hb2 (by simp)); have HB2 := Lib.hid hb2; clear hb2) | (go_at_call 11; refine (HV.out _).mono ?_; rintro e w9 ⟨rfl, hb9⟩; have HB9 := Lib.hid hb9; clear hb9))
        go_ret
        exact ⟨rfl, below_new (HB2.out.trans (HB9.out.mono HB2.out.size))⟩
  · simp only [show (!decide (ShortUp up)) = true by simp [hs]] at hlo
    obtain ⟨variant, width, cap, producers, start, ua, un, uc⟩ := c
    unfold Cf.vs at *
    dsimp only at *
    subst hun
    have HLO := Lib.hid hlo
    clear hlo hU hll hlen hs hst hA hd6
    go_enter Tryz.func4, Tryz.ntmps4
    go_wp2_with (first | (go_at_call 6; refine (HLO.out _ (by (repeat (with_reducible first | exact Below.refl _ _ | refine Below.drew ?_ | refine below_drewN ?_ _ | refine Below.setCell ?_ ?_ _ | refine Below.alloc ?_ ?_ _)); all_goals first | omega | (dsimp only; omega) | (simp; omega))).mono ?_; rintro e w' ⟨rfl, rfl⟩) | (go_at_call 11; refine (HV.out _).mono ?_; rintro e w9 ⟨rfl, hb9⟩; have HB9 := Lib.hid hb9; clear hb9))
    go_ret
    exact ⟨rfl, below_new HB9.out⟩
end
end

namespace lawBoardCosts
open Go.ChangeShapes Go.WideShapes Go.ChangeAt Go.RowKit
theorem own : ownKnob Tryz.prog.godebug = none := by kernel_rfl
theorem laidOut : laidOutB Tryz.prog = true := by kernel_rfl
set_option maxRecDepth 100000 in
theorem lifted (os : Os) (started : os.Started) (H : Type) (enc : TypeId × Value → H) :
    ReturnsInHanded {} Tryz.checked os 4 .any (Rows.boardCostsSpec.pre6 enc Tryz.prog Tryz.f4 Rows.boardCostsRow.domain false) (Rows.boardCostsSpec.post enc Tryz.prog Tryz.f4 false true false false) := by
  refine returnsInHanded_of_change (C := Tryz.checked) own started (by kernel_rfl) Tryz.func4
    (ChangeSpec.witness6 (enc := enc) (C := Tryz.checked) false ⟨#[], #[.agg #[.int .i64 0, .int .i64 0, .int .i64 0, .int .i64 0, .int .u64 0, .slice none 0 0], .slice none 0 0, .int .i64 0], []⟩ 8 (by kernel_rfl) (by kernel_rfl) (by kernel_rfl) (by kernel_rfl)) ?_
  intro W base args ds gs before hval0 hW hcnd _
  have hval : ∀ (j : Nat) t v, Tryz.f4.params[j]? = some t → args[j]? = some v → Value.okWide Tryz.prog W .any base t v := hval0
  have hW' := hW
  obtain ⟨p, q, hA0, hV, rfl, hfz, hnd⟩ := hW
  have hA : DataW.TrodAll enc Tryz.prog W 0 (fun _ => true) true Tryz.f4.params.toList args.toList ds p := hA0
  rw [Tryz.params4] at hA hval
  obtain ⟨v0, vs0, d0, ds0, p0, q0, hargs, rfl, rfl, h0, r0⟩ := trodAll_cons hA
  obtain ⟨v1, vs1, d1, ds1, p1, q1, rfl, rfl, rfl, h1, r1⟩ := trodAll_cons r0
  obtain ⟨v2, vs2, d2, ds2, p2, q2, rfl, rfl, rfl, h2, r2⟩ := trodAll_cons r1
  obtain ⟨rfl, rfl, rfl⟩ := trodAll_nil r2
  obtain rfl : args = #[v0, v1, v2] := by cases args; simp_all
  obtain ⟨rfl, rfl⟩ := trodVars_none hV
  have k0 := h0
  have lt0 : ∀ x ∈ p0, x.block < W.heap.size := by obtain ⟨m, hm⟩ := k0; exact DataW.trod_lt m _ _ _ hm
  obtain ⟨c0, up0, H0⟩ := open_conf (hval 0 25 v0 rfl rfl) h0
  have hv0 := H0.val
  subst hv0
  have k1 := h1
  have lt1 : ∀ x ∈ p1, x.block < W.heap.size := by obtain ⟨m, hm⟩ := k1; exact DataW.trod_lt m _ _ _ hm
  obtain ⟨A1, rs1, cap1, rfl, hk1, hw1, hl1⟩ := open_dos (ks := [.i64, .i64, .i64, .i64, .u64, .u64]) Tryz.underlying32 Tryz.underlying45 (by kernel_rfl) (by kernel_rfl) (by intro j k hj; match j, hj with | 0, hj => exact ⟨_, rfl, by rw [← Option.some.inj hj]; exact Tryz.underlying3⟩ | 1, hj => exact ⟨_, rfl, by rw [← Option.some.inj hj]; exact Tryz.underlying3⟩ | 2, hj => exact ⟨_, rfl, by rw [← Option.some.inj hj]; exact Tryz.underlying3⟩ | 3, hj => exact ⟨_, rfl, by rw [← Option.some.inj hj]; exact Tryz.underlying3⟩ | 4, hj => exact ⟨_, rfl, by rw [← Option.some.inj hj]; exact Tryz.underlying22⟩ | 5, hj => exact ⟨_, rfl, by rw [← Option.some.inj hj]; exact Tryz.underlying22⟩ | _ + 6, hj => exact absurd hj (by simp)) (by decide) (hval 1 32 v1 rfl rfl) h1
  have k2 := h2
  have lt2 : ∀ x ∈ p2, x.block < W.heap.size := by obtain ⟨m, hm⟩ := k2; exact DataW.trod_lt m _ _ _ hm
  obtain ⟨a2, rfl, rfl, rfl, w2⟩ := open_int Tryz.underlying3 (hval 2 3 v2 rfl rfl) h2
  clear hA0 hval0
  refine (boardCosts_any W c0 up0 H0.un H0.upA H0.len H0.ll H0.b4 A1 rs1 cap1 hk1 hw1 a2).mono fun e W' ⟨he, bel⟩ => ?_
  subst he
  exact ⟨_, rfl, _, _, _, [], _, [], hW', trodAll_mk1 (shut_bool Tryz.underlying4 _), (trodAll_cons_mk (Below.trod laidOut (by kernel_rfl) (of_decide_eq_true (by kernel_rfl)) k0 bel lt0) (trodAll_cons_mk (Below.trod laidOut (by kernel_rfl) (of_decide_eq_true (by kernel_rfl)) k1 bel lt1) (trodAll_cons_mk (Below.trod laidOut (by kernel_rfl) (of_decide_eq_true (by kernel_rfl)) k2 bel lt2) trodAll_mk0))), rfl, bel.frame _, fun h => by cases h⟩

theorem over : Rows.boardCostsRow.holds Tryz.pinned (OpenSpec.ofChange Rows.boardCostsSpec) :=
  OpenClaim.holds_of_wide 4 Tryz.f4 rfl rfl rfl rfl rfl rfl rfl ⟨rfl, rfl, rfl, rfl, rfl⟩ rfl rfl rfl rfl rfl (by kernel_rfl) Tryz.func4 (by kernel_rfl)
    (of_decide_eq_true (by kernel_rfl)) (by unfold Func.isWrapper; rw [if_neg (by decide +kernel)]; exact ⟨rfl, rfl⟩)
    (fun os started H enc _ => lifted os started H enc)
end lawBoardCosts
/-- THE STATEMENT. -/
theorem boardCosts_holds : Rows.BoardCostsSaid := lawBoardCosts.over
#print axioms boardCosts_holds
end Go.Proofs.YtmjpdojecdnkjaaGreat
