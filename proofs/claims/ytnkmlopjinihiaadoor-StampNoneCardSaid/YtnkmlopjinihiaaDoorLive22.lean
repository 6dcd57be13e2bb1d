/- sakialaw22.live returns true, and changes nothing. -/
import Derived.Test.YtnkmlopjinihiaaDoorNewStamp
import Derived.Test.YtnkmlopjinihiaaDoorSeqStamp
import Derived.Test.YtnkmlopjinihiaaDoorAloneS
import Derived.Test.YtnkmlopjinihiaaDoorCase22
import Derived.Test.YtnkmlopjinihiaaDoorLayOf
import Derived.Test.YtnkmlopjinihiaaDoorNew
import Derived.Test.YtnkmlopjinihiaaDoorGuard
import Derived.Test.YtnkmlopjinihiaaDoorTurnF
namespace Go.Proofs.YtnkmlopjinihiaaDoor
open Go.RowKit
set_option linter.unusedVariables false
set_option linter.unusedSimpArgs false
set_option maxHeartbeats 8000000

theorem live_case22 : CaseN 4 32 2 1 0 M32 1 := ⟨⟨by decide, by decide⟩, .inl rfl, .inl rfl, by decide, ⟨by decide, by decide⟩, ⟨by decide, by decide⟩, ⟨by decide, by decide⟩, MW_32.symm⟩
theorem conf22_0 (w : World) : Calls Tryd.prog 57 #[.agg #[.bool false, .int .u8 0, .int .u8 0, .int .u8 0, .int .u64 0]] w fun e w' =>
    ∃ A c, e = .returned (.agg #[.int .i64 4, .int .i64 32, .int .i64 2, .int .i64 1, .int .u64 0, .slice A 1 c]) ∧ UpAt w' (fun b => w.heap.size ≤ b ∧ b < w'.heap.size) A [[]] ∧ 1 ≤ c ∧ Below w.heap.size w w' :=
  (conf22_false 0 0 0 0 ⟨by decide, by decide⟩ ⟨by decide, by decide⟩ ⟨by decide, by decide⟩ w).mono fun _ _ h => h
set_option maxRecDepth 100000 in
theorem live22 (w : World) (hg : 1 < w.heap.size) (hT : TabG 1 w) : Calls Tryd.prog 64 #[] w fun e w' => e = .returned (.bool true) ∧ Below w.heap.size w w' := by
  have hcn := live_case22
  have HCF := Lib.hid conf22_0
  have hok := fun A c => (hcn.conf : CfOk (cfN 4 32 2 1 0 A 1 c) (List.replicate 1 []))
  have hfit := fun A c => (hcn.fit : (newBS (mkLay (cfN 4 32 2 1 0 A 1 c))).Fit M32)
  have HOF := Lib.hid (fun (Bk : Nat → Prop) ua uc W hB hU => layof Bk ⟨4, 32, 2, 1, 0, ua, 1, uc⟩ [[]] rfl (hok ua uc) (by simp) W hB hU)
  have HNW := Lib.hid (fun (Bk : Nat → Prop) ua uc W hB hU => bnew32 Bk ⟨4, 32, 2, 1, 0, ua, 1, uc⟩ [[]] rfl (hok ua uc) rfl ⟨show (0 : Int) ≤ 0 by decide, show (0 : Int) ≤ 18446744073709551615 by decide⟩ (by simp) W hB hU)
  have HSN := Lib.hid (fun (Bk : Nat → Prop) ua uc W γ p lg hb hB hU hg hT => new432 Bk (newBS (mkLay ⟨4, 32, 2, 1, 0, ua, 1, uc⟩)) [[]] p lg W γ 1 hb rfl rfl (hok ua uc) ⟨show (0 : Int) ≤ 0 by decide, show (0 : Int) ≤ 18446744073709551615 by decide⟩ (by simp) (hfit ua uc).ok.bd (hfit ua uc).ok.pos rfl (hfit ua uc).lay hB hU hg hT)
  have hal := fun A3 c3 EA EC => alone4_is (A := A3) (c := c3) (EA := EA) (EC := EC) hcn
  rw [show cutM M32 0 = 0 by decide, show 4 * (2 : Int).toNat + 1 + 8 = 17 by decide] at hal
  have HAL := Lib.hid hal
  have HT := Lib.hid (And.intro hg hT)
  unfold Cf.vs at HOF
  unfold Lay.vs at HNW
  clear hg hT hok hfit hcn hal
  go_enter Tryd.func64, Tryd.ntmps64
  go_wp2_with (first
    | (go_at_call 57; refine (HCF.out _).mono ?_; rintro e w1 ⟨A1, c1, rfl, hU1, hc1, hb1⟩; have HU1 := Lib.hid hU1; have HB1 := Lib.hid hb1; clear hU1 hb1 hc1)
    | (go_at_call 17; refine (HOF.out (fun b => w.heap.size ≤ b ∧ b < w1.heap.size) A1 c1 _ (fun b hb => hb.2) HU1.out).mono ?_; rintro e w3 ⟨A3, c3, rfl, hcl3, hU3, hb3⟩; unfold Lay.vs; obtain ⟨hc3, hf3⟩ := bcell hb3; have HU3 := Lib.hid hU3; have hz3 := hb3.size; have HW3 := Lib.hid (HB1.out.trans (hb3.mono HB1.out.size)); clear hU3 hb3 hcl3)
    | (go_at_call 28; refine (HNW.out _ A3 c3 _ (by intro b hb; have := hb.2; simp; omega) (HU3.out.below (B := w3.heap.size) (by (repeat (with_reducible first | exact Below.refl _ _ | refine Below.drew ?_ | refine below_drewN ?_ _ | refine Below.setCell ?_ ?_ _ | refine Below.alloc ?_ ?_ _)); all_goals first | omega | (dsimp only; omega) | (simp; omega)) (fun b hb => hb.2))).mono ?_; intro e w4 hN; obtain ⟨p, γ4, rfl, hb4, hp4, hB4, hO4, hl4⟩ := new_old 208 (Below.refl _ _) hN; have hex := nb_base (w := w) (its_B hO4 hB4) (HW3.out.alloc HW3.out.size _) (by intro b hb; have := hb.2; simp; omega) (HU3.out.below (B := w3.heap.size) (by (repeat (with_reducible first | exact Below.refl _ _ | refine Below.drew ?_ | refine below_drewN ?_ _ | refine Below.setCell ?_ ?_ _ | refine Below.alloc ?_ ?_ _)); all_goals first | omega | (dsimp only; omega) | (simp; omega)) (fun b hb => hb.2)); obtain ⟨B0, hi4, hbw, hUB, hU4⟩ := hex; have HI4 := Lib.hid hi4; have HBW := Lib.hid (And.intro hbw (And.intro hUB hU4)); clear hN hb4 hp4 hB4 hO4 hl4 hi4 hbw hUB hU4)
    | (go_at_call 50; refine (evNew _).mono ?_; rintro e w5 ⟨lg, rfl, hb5, hl5⟩; have hex := its_BL HI4.out hb5 hl5; obtain ⟨γ5, hi5⟩ := hex; have HI5 := Lib.hid hi5; clear hb5 hl5 hi5)
    | (go_at_call 58; refine (HSN.out _ A3 c3 _ γ5 p lg HI5.out.g0 (fun b hb => Nat.lt_of_lt_of_le (HBW.out.2.1 b hb) HI5.out.bel.size) (HBW.out.2.2.below HI5.out.bel HBW.out.2.1) (Nat.lt_of_lt_of_le HT.out.1 (Nat.le_trans HBW.out.1.size HI5.out.bel.size)) ((HT.out.2.below HBW.out.1 HT.out.1).below HI5.out.bel (Nat.lt_of_lt_of_le HT.out.1 HBW.out.1.size))).mono ?_; rintro e w6 ⟨g, EA, EC, LA, LC, rfl, hb6, hg6, hs6⟩; have hex := its_BLN HI5.out hb6 hs6; obtain ⟨γ6, hi6⟩ := hex; have HI6 := Lib.hid (show Its B0 (fun _ => 0) NoId [itB 132 48 208 .u32 1 p (sN 4 32 2 1 0 M32 A3 1 c3).b, itL 155 162 2 lg (sN 4 32 2 1 0 M32 A3 1 c3).ev, itSN 165 48 .u32 3 g (fun n => csX p lg (qN 4 32 2 1 0 A3 1 c3 ((1 : Nat) : Int) EA EC) LA n LC) (qN 4 32 2 1 0 A3 1 c3 ((1 : Nat) : Int) EA EC) LA LC (sN 4 32 2 1 0 M32 A3 1 c3).least] w6 γ6 from hi6); clear hb6 hg6 hs6 hi6))
  obtain ⟨Rest, CP, PP, TP, Tk, Pd, GP, hal, hRt, hSt, hev⟩ := HAL.out A3 c3 EA EC
  have HL := Lib.hid hal
  have HRt := Lib.hid hRt
  have HSt := Lib.hid hSt
  have HEV := Lib.hid hev
  have HX0 := Lib.hid (show InM M32 0 by unfold InM M32; decide)
  clear hal hRt hSt hev
  have hx7 := its_K (T := 62) HI6.out rfl rfl rfl (frsCs .u32 [] [({ n := 2 } : FrS)] [])
  obtain ⟨γ7, hi7⟩ := hx7
  have HI7 := Lib.hid hi7
  clear hi7
  go_loopw [7, 8] (fun d i wr => ∃ (j : Nat) (γ : Nat → Nat) (s : SqN) (f : FrS), i = .int .i64 j ∧ j ≤ 17 ∧ StN M32 (qN 4 32 2 1 0 A3 1 c3 ((1 : Nat) : Int) EA EC) j s ∧ Q432 B0 (fun _ => 0) NoId [] (qp1 4 62 p lg g w6.heap.size) LA LC (qN 4 32 2 1 0 A3 1 c3 ((1 : Nat) : Int) EA EC) s f wr γ ∧ ((d = .bool false ∧ CP 0 2 j s f) ∨ (d = .bool true ∧ Tk 0 2 s ∧ f.from_ = 0))) (fun _ i _ => 30 - (intOf i).toNat)
  case atStart => exact ⟨0, γ7, _, _, rfl, by omega, HSt.out, HI7.out, .inl ⟨rfl, HL.out.claim0 HX0.out (by decide) (by decide) HRt.out⟩⟩
  case round =>
    obtain ⟨j, γ8, s, f, rfl, hj, hS, hq8, hcase⟩ := hrel
    rcases hcase with ⟨rfl, hC⟩ | ⟨rfl, hTk, hfr⟩
    · obtain ⟨hjb, hfo, hst2⟩ := HL.out.claim1 hS hC
      have hS3 := HL.out.stClaim (f := f) hS
      have hcall := fun W (hW : Below wr.heap.size wr W) => q4s_claim32 (hq8.bel hW) hS (by omega) hfo 0
      have hlt20 : (j : Int) < 20 := by omega
      clear hq8 hS hC hfo
      rcases hcs : claim4 M32 (qN 4 32 2 1 0 A3 1 c3 ((1 : Nat) : Int) EA EC) 0 s f with ⟨rb, s3, f3⟩
      rw [hcs] at hcall
      rw [hcs] at hst2 hS3
      dsimp only at hst2 hS3
      have HS3 := Lib.hid hS3
      have HCALL := Lib.hid hcall
      clear hS3 hcs hcall
      rcases hst2 with ⟨rfl, hTk, hfr⟩ | ⟨rfl, hC3⟩
      · have HTK := Lib.hid (And.intro hTk hfr)
        clear hTk hfr
        go_wp2_with (go_at_call 59; refine (HCALL.out _ (by (repeat (with_reducible first | exact Below.refl _ _ | refine Below.drew ?_ | refine below_drewN ?_ _ | refine Below.setCell ?_ ?_ _ | refine Below.alloc ?_ ?_ _)); all_goals first | omega | (dsimp only; omega) | (simp; omega))).mono ?_; rintro e w9 ⟨rfl, γ9, h9⟩; have HQ9 := Lib.hid h9; clear h9)
        go_roundw
        case rel => exact ⟨j + 1, γ9, s3, f3, by go_num, by omega, HS3.out, HQ9.out, .inr ⟨rfl, HTK.out.1, HTK.out.2⟩⟩
        case measure => simp only [intOf]; omega
      · have HC3 := Lib.hid hC3
        clear hC3
        go_wp2_with (go_at_call 59; refine (HCALL.out _ (by (repeat (with_reducible first | exact Below.refl _ _ | refine Below.drew ?_ | refine below_drewN ?_ _ | refine Below.setCell ?_ ?_ _ | refine Below.alloc ?_ ?_ _)); all_goals first | omega | (dsimp only; omega) | (simp; omega))).mono ?_; rintro e w9 ⟨rfl, γ9, h9⟩; have HQ9 := Lib.hid h9; clear h9)
        go_roundw
        case rel => exact ⟨j + 1, γ9, s3, f3, by go_num, by omega, HS3.out, HQ9.out, .inl ⟨rfl, HC3.out⟩⟩
        case measure => simp only [intOf]; omega
    · have hF := hq8.reg
      have HQ8 := Lib.hid hq8
      have HTK := Lib.hid (And.intro hTk hfr)
      have HS := Lib.hid hS
      obtain ⟨wG, hwG⟩ : ∃ x, x = wr := ⟨wr, rfl⟩
      subst hwG
      obtain ⟨r1, r3, r4, r6, r7, r8, r5, zr, hr⟩ := hF
      dsimp only [qp1] at r6
      rw [Nat.zero_add, hfr] at r6
      clear r1 r3 r4 r7 r8 r5 hq8 hTk hfr hS
      go_wp2_with fail
      have hx8 := its_K5 (T := 62) HQ8.out rfl rfl rfl rfl (frsCs .u32 [] [({ n := 2, from_ := 0 } : FrS)] [])
      obtain ⟨γ9, hi9⟩ := hx8
      have HI9 := Lib.hid hi9
      clear hi9 zr hr
      go_loopw [7, 10] (fun d i wr2 => d = .bool true ∧ ∃ (jp : Nat) (γ : Nat → Nat) (s4 : SqN) (f4 : FrS), i = .int .i64 jp ∧ jp ≤ 17 ∧ StN M32 (qN 4 32 2 1 0 A3 1 c3 ((1 : Nat) : Int) EA EC) (j + jp) s4 ∧ PP 0 2 jp s4 f4 ∧ Q432 B0 (fun _ => 0) NoId [itK 4 w6.heap.size 62 (frsCs .u32 [] [(f : FrS)] [])] (qp1 5 62 p lg g wG.heap.size) LA LC (qN 4 32 2 1 0 A3 1 c3 ((1 : Nat) : Int) EA EC) s4 f4 wr2 γ) (fun _ i _ => 30 - (intOf i).toNat)
      case atStart => exact ⟨rfl, 0, γ9, s, _, rfl, by omega, HS.out, HL.out.publish0 HTK.out.1, HI9.out⟩
      case round =>
        obtain ⟨rfl, jp, γ10, s4, f4, rfl, hjp, hS4, hC4, hq9⟩ := hrel
        obtain ⟨hjb, hfo, hst4⟩ := HL.out.publish1 hS4 hC4
        have hS5 := HL.out.stPublish (f := f4) hS4 hfo
        have hcall := fun W (hW : Below wr.heap.size wr W) => q4s_publish32 (hq9.bel hW) hS4 (by omega) hfo 0
        have hlt20 : (jp : Int) < 20 := by omega
        have hlt19 : decide ((jp : Int) < 19) = true := decide_eq_true (by omega)
        clear hq9 hS4 hC4 hfo
        rcases hcs : publish4 M32 (qN 4 32 2 1 0 A3 1 c3 ((1 : Nat) : Int) EA EC) 0 s4 f4 with ⟨rb, s5, f5⟩
        rw [hcs] at hcall
        rw [hcs] at hst4 hS5
        dsimp only at hst4 hS5
        have HS5 := Lib.hid hS5
        have HCALL := Lib.hid hcall
        clear hS5 hcs hcall
        rcases hst4 with ⟨rfl, hPd⟩ | ⟨rfl, hC5⟩
        · have HPD := Lib.hid hPd
          clear hPd
          go_wp2_with (go_at_call 60; refine (HCALL.out _ (by (repeat (with_reducible first | exact Below.refl _ _ | refine Below.drew ?_ | refine below_drewN ?_ _ | refine Below.setCell ?_ ?_ _ | refine Below.alloc ?_ ?_ _)); all_goals first | omega | (dsimp only; omega) | (simp; omega))).mono ?_; rintro e w10 ⟨rfl, γ11, h10⟩; have HQ10 := Lib.hid h10; clear h10)
          have hx9 := its_K6 (T := 62) HQ10.out rfl rfl rfl rfl rfl (frsCs .u32 [] [({ val := 0 } : FrS)] [])
          obtain ⟨γ12, hi12⟩ := hx9
          have HI12 := Lib.hid hi12
          clear hi12
          go_loopw [7, 12] (fun d i wr3 => d = .bool true ∧ ∃ (jt : Nat) (γ : Nat → Nat) (s6 : SqN) (f6 : FrS), i = .int .i64 jt ∧ jt ≤ 17 ∧ StN M32 (qN 4 32 2 1 0 A3 1 c3 ((1 : Nat) : Int) EA EC) (j + jp + 1 + jt) s6 ∧ TP 0 2 jt s6 f6 ∧ Q432 B0 (fun _ => 0) NoId [itK 5 wG.heap.size 62 (frsCs .u32 [] [(f5 : FrS)] []), itK 4 w6.heap.size 62 (frsCs .u32 [] [(f : FrS)] [])] (qp1 6 62 p lg g w10.heap.size) LA LC (qN 4 32 2 1 0 A3 1 c3 ((1 : Nat) : Int) EA EC) s6 f6 wr3 γ) (fun _ i _ => 30 - (intOf i).toNat)
          case atStart => exact ⟨rfl, 0, γ12, s5, _, rfl, by omega, HS5.out, HL.out.tip0 HPD.out, HI12.out⟩
          case round =>
            obtain ⟨rfl, jt, γ13, s6, f6, rfl, hjt, hS6, hC6, hq13⟩ := hrel
            obtain ⟨hjb2, hfo, hst6⟩ := HL.out.tip1 hS6 hC6
            have hS7 := HL.out.stTip (f := f6) hS6 hfo
            have hcall := fun W (hW : Below wr.heap.size wr W) => q4s_tip32 (hq13.bel hW) hS6 (by omega) hfo 1
            have hlt20t : (jt : Int) < 20 := by omega
            have hlt19t : decide ((jt : Int) < 19) = true := decide_eq_true (by omega)
            clear hq13 hS6 hC6 hfo
            rcases hcs : tip4 M32 (qN 4 32 2 1 0 A3 1 c3 ((1 : Nat) : Int) EA EC) 1 s6 f6 with ⟨rb, s7, f7⟩
            rw [hcs] at hcall
            rw [hcs] at hst6 hS7
            dsimp only at hst6 hS7
            have HS7 := Lib.hid hS7
            have HCALL := Lib.hid hcall
            clear hS7 hcs hcall
            rcases hst6 with ⟨rfl, hGP, hval⟩ | ⟨rfl, hC7⟩
            · have h3 := HEV.out _ _ _ hGP
              have h3i : (3 : Int) ≤ s7.ev.length := by omega
              have hv2 : f7.val = 2 := by rw [hval]; decide
              have HV2 := Lib.hid hv2
              clear hv2 hval hGP h3
              go_wp2_with (first
                | (go_at_call 61; refine (HCALL.out _ (by (repeat (with_reducible first | exact Below.refl _ _ | refine Below.drew ?_ | refine below_drewN ?_ _ | refine Below.setCell ?_ ?_ _ | refine Below.alloc ?_ ?_ _)); all_goals first | omega | (dsimp only; omega) | (simp; omega))).mono ?_; rintro e w14 ⟨rfl, γ14, h14⟩; have hk : Blk w14 w6.heap.size _ (frsCs .u32 [] [f] []) ∧ γ14 w6.heap.size = 4 := Its.g5 h14; have c6 : w14.cell? ⟨w6.heap.size, 6, none⟩ = some (.int .u32 f.from_) := hk.1.cell 6; rw [HTK.out.2] at c6; have hv := h14.reg.2.2.2.2.2.1; dsimp only [qp1] at hv; rw [Nat.zero_add, HV2.out] at hv; have HQ14 := Lib.hid h14; clear h14 hk)
                | (go_at_call 63; refine (evLen _ _ _ _ _ (show LogAt 155 162 w14 γ14 2 lg s7.ev from Its.g1 HQ14.out)).mono ?_; rintro e w' ⟨rfl, rfl⟩))
              go_ret
              exact ⟨rfl, HBW.out.1.trans ((Its.bel HQ14.out).mono HBW.out.1.size)⟩
            · have HC7 := Lib.hid hC7
              clear hC7
              go_wp2_with (go_at_call 61; refine (HCALL.out _ (by (repeat (with_reducible first | exact Below.refl _ _ | refine Below.drew ?_ | refine below_drewN ?_ _ | refine Below.setCell ?_ ?_ _ | refine Below.alloc ?_ ?_ _)); all_goals first | omega | (dsimp only; omega) | (simp; omega))).mono ?_; rintro e w14 ⟨rfl, γ14, h14⟩; have HQ14 := Lib.hid h14; clear h14)
              go_roundw
              case rel => exact ⟨by simp [hlt19t], jt + 1, γ14, s7, f7, by go_num, by omega, HS7.out, HC7.out, HQ14.out⟩
              case measure => simp only [intOf]; omega
        · have HC5 := Lib.hid hC5
          clear hC5
          go_wp2_with (go_at_call 60; refine (HCALL.out _ (by (repeat (with_reducible first | exact Below.refl _ _ | refine Below.drew ?_ | refine below_drewN ?_ _ | refine Below.setCell ?_ ?_ _ | refine Below.alloc ?_ ?_ _)); all_goals first | omega | (dsimp only; omega) | (simp; omega))).mono ?_; rintro e w10 ⟨rfl, γ11, h10⟩; have HQ10 := Lib.hid h10; clear h10)
          go_roundw
          case rel => exact ⟨by simp [hlt19], jp + 1, γ11, s5, f5, by go_num, by omega, HS5.out, HC5.out, HQ10.out⟩
          case measure => simp only [intOf]; omega
theorem live_at22 {w X : World} (HV : ∀ W, Below w.heap.size w W → Calls Tryd.prog 64 #[] W fun e w' => e = .returned (.bool true) ∧ Below W.heap.size W w') (hX : Below w.heap.size w X) (W : World) (hW : Below X.heap.size X W) :
    Calls Tryd.prog 64 #[] W fun e w' => e = .returned (.bool true) ∧ Below w.heap.size w w' :=
  (HV W (hX.trans (hW.mono hX.size))).mono fun _ _ ⟨he, hb⟩ => ⟨he, (hX.trans (hW.mono hX.size)).trans (hb.mono (hX.trans (hW.mono hX.size)).size)⟩
end Go.Proofs.YtnkmlopjinihiaaDoor
