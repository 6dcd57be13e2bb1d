/- sakialaw22.StampAlone returns true for every input, and changes nothing. -/
import Derived.Test.YtnkmlopjinihiaaGreatDoorLive22
import Derived.Test.YtnkmlopjinihiaaGreatDoorAloneS
import Derived.Test.YtnkmlopjinihiaaGreatDoorOpenC
namespace Go.Proofs.YtnkmlopjinihiaaGreatDoor
open Go.RowKit
set_option linter.unusedVariables false
set_option linter.unusedSimpArgs false
set_option maxHeartbeats 8000000

set_option maxRecDepth 100000 in
theorem stampAlone_any (wd : Bool) (lg pr rt st : Int) (hl : 0 ≤ lg ∧ lg ≤ 255) (hp : 0 ≤ pr ∧ pr ≤ 255) (hr : 0 ≤ rt ∧ rt ≤ 255) (hst : 0 ≤ st ∧ st ≤ 18446744073709551615) (A : Option Addr) (xs : List Int) (cap : Nat) (w : World) (hA : KAt .u8 w (fun b => b < w.heap.size) A xs) (hx : ∀ x ∈ xs, 0 ≤ x ∧ x < 256) (hg : 0 < w.heap.size) (hT : TabG 0 w) :
    Calls Tryz.prog 3 #[.agg #[.bool wd, .int .u8 lg, .int .u8 pr, .int .u8 rt, .int .u64 st], .slice A xs.length cap] w fun e w' => e = .returned (.bool true) ∧ Below w.heap.size w w' := by
  have hcf := fun W => conf22_true lg pr rt st hl hp hr W
  unfold CaseEnd at hcf
  have hN : 1 ≤ (rt % 3 + 1).toNat ∧ (rt % 3 + 1).toNat ≤ 6 := by omega
  have hc2 := cap2_C lg
  have hc16 : capC lg ≤ 16 := by rcases capC_in lg with h | h | h | h <;> rw [h] <;> decide
  generalize (rt % 3 + 1).toNat = N at hcf hN
  generalize capC lg = cp at hcf hc2 hc16
  have hnp : 1 ≤ 1 + pr % 4 ∧ 1 + pr % 4 ≤ 4 := by omega
  generalize 1 + pr % 4 = np at hcf hnp
  have hcb := hc2.bd
  have HCF := Lib.hid (fun W => hcf W)
  have hcn : CaseN 4 64 cp np st M64 N := ⟨⟨by decide, by decide⟩, .inr rfl, hc2, hc16, hnp, hN, hst, MW_64.symm⟩
  have hok := fun A c => (hcn.conf : CfOk (cfN 4 64 cp np st A N c) (List.replicate N []))
  have HOF := Lib.hid (fun (Bk : Nat → Prop) ua uc W hB hU => layof Bk ⟨4, 64, cp, np, st, ua, N, uc⟩ (List.replicate N []) (by simp) (hok ua uc) nils_short W hB hU)
  have HNW := Lib.hid (fun (Bk : Nat → Prop) ua uc W hB hU => bnew64 Bk ⟨4, 64, cp, np, st, ua, N, uc⟩ (List.replicate N []) (by simp) (hok ua uc) rfl hst nils_short W hB hU)
  have hfit := fun ua uc => newBS_fit ⟨4, 64, cp, np, st, ua, N, uc⟩ (hok ua uc) (by simp)
  have HSN := Lib.hid (fun (Bk : Nat → Prop) ua uc W γ p lg hb hB hU hg hT => new464 Bk (newBS (mkLay ⟨4, 64, cp, np, st, ua, N, uc⟩)) (List.replicate N []) p lg W γ 1 hb rfl (by show N = _; simp) (hok ua uc) hst nils_short (hfit ua uc).ok.bd (hfit ua uc).ok.pos rfl (hfit ua uc).lay hB hU hg hT)
  have hal := fun A3 c3 EA EC => alone4_is (A := A3) (c := c3) (EA := EA) (EC := EC) hcn
  rw [show cutM M64 st = st by unfold cutM M64; omega] at hal
  have HAL := Lib.hid hal
  have HT := Lib.hid (And.intro hg hT)
  have HV := Lib.hid (fun W (hW : Below w.heap.size w W) => live22 W (Nat.lt_of_lt_of_le hg hW.size) (hT.below hW hg))
  have HP := Lib.hid (And.intro hc2 (And.intro hN hc16))
  unfold Cf.vs at HOF
  unfold Lay.vs at HNW
  dsimp only at HOF HNW
  clear hok hfit hcf hg hT hl hp hr hc2 hcn hal
  by_cases hlen : 60 < xs.length
  · go_enter Tryz.func3, Tryz.ntmps3
    go_wp2_with (first
      | (go_at_call 7; refine (HCF.out _).mono ?_; rintro e w1 ⟨A1, c1, rfl, hU1, hc1, hb1⟩; have HU1 := Lib.hid hU1; have hz1 := hb1.size; have HB1 := Lib.hid (below_chain3 (a := w) (by (repeat (with_reducible first | exact Below.refl _ _ | refine Below.drew ?_ | refine below_drewN ?_ _ | refine Below.setCell ?_ ?_ _ | refine Below.alloc ?_ ?_ _)); all_goals first | omega | (dsimp only; omega) | (simp; done) | (simp; omega)) hb1); clear hU1 hb1 hc1)
      | (go_at_call 8; refine (live_at22 HV.out HB1.out _ (by (repeat (with_reducible first | exact Below.refl _ _ | refine Below.drew ?_ | refine below_drewN ?_ _ | refine Below.setCell ?_ ?_ _ | refine Below.alloc ?_ ?_ _)); all_goals first | omega | (dsimp only; omega) | (simp; done) | (simp; omega))).mono ?_; rintro e w20 ⟨rfl, hb20⟩; have HB20 := Lib.hid hb20; clear hb20))
    go_ret
    exact ⟨rfl, HB20.out⟩
  · go_enter Tryz.func3, Tryz.ntmps3
    go_wp2_with (first
      | (go_at_call 7; refine (HCF.out _).mono ?_; rintro e w1 ⟨A1, c1, rfl, hU1, hc1, hb1⟩; have HU1 := Lib.hid hU1; have hz1 := hb1.size; have HB1 := Lib.hid (below_chain3 (a := w) (by (repeat (with_reducible first | exact Below.refl _ _ | refine Below.drew ?_ | refine below_drewN ?_ _ | refine Below.setCell ?_ ?_ _ | refine Below.alloc ?_ ?_ _)); all_goals first | omega | (dsimp only; omega) | (simp; done) | (simp; omega)) hb1); clear hU1 hb1 hc1)
      | (go_at_call 9; refine (HOF.out (fun b => b < w1.heap.size) A1 c1 _ (by intro b hb; refine Nat.lt_of_lt_of_le hb ?_; simp) ((HU1.out.mono (fun b hb => hb.2)).below (B := w1.heap.size) (by (repeat (with_reducible first | exact Below.refl _ _ | refine Below.drew ?_ | refine below_drewN ?_ _ | refine Below.setCell ?_ ?_ _ | refine Below.alloc ?_ ?_ _)); all_goals first | omega | (dsimp only; omega) | (simp; done) | (simp; omega)) (fun b hb => hb))).mono ?_; rintro e w3 ⟨A3, c3, rfl, hcl3, hU3, hb3⟩; unfold Lay.vs; have HK3 := Lib.hid ((Blk.new w1 28 _).below hb3 (by simp)); obtain ⟨u0, u1, u2, u3, u4, u5⟩ := blk_cells6 HK3.out; have HU3 := Lib.hid hU3; have hz3 : w1.heap.size < w3.heap.size := HK3.out.lt; have HW3 := Lib.hid (below_chain3 (a := w) (Below.trans HB1.out (Below.mono (by (repeat (with_reducible first | exact Below.refl _ _ | refine Below.drew ?_ | refine below_drewN ?_ _ | refine Below.setCell ?_ ?_ _ | refine Below.alloc ?_ ?_ _)); all_goals first | omega | (dsimp only; omega) | (simp; done) | (simp; omega)) HB1.out.size)) hb3); clear hU3 hb3 hcl3)
      | (go_at_call 10; refine (HNW.out _ A3 c3 _ (by intro b hb; have := hb.2; simp; omega) (HU3.out.below (B := w3.heap.size) (by (repeat (with_reducible first | exact Below.refl _ _ | refine Below.drew ?_ | refine below_drewN ?_ _ | refine Below.setCell ?_ ?_ _ | refine Below.alloc ?_ ?_ _)); all_goals first | omega | (dsimp only; omega) | (simp; done) | (simp; omega)) (fun b hb => hb.2))).mono ?_; intro e w4 hN; obtain ⟨p, γ4, rfl, hb4, hp4, hB4, hO4, hl4⟩ := new_old 175 (Below.refl _ _) hN; have hex := nb_base2 (w := w) (its_B hO4 hB4) (HW3.out.alloc HW3.out.size _) (by intro b hb; have := hb.2; simp; omega) (HU3.out.below (B := w3.heap.size) (by (repeat (with_reducible first | exact Below.refl _ _ | refine Below.drew ?_ | refine below_drewN ?_ _ | refine Below.setCell ?_ ?_ _ | refine Below.alloc ?_ ?_ _)); all_goals first | omega | (dsimp only; omega) | (simp; done) | (simp; omega)) (fun b hb => hb.2)) (HK3.out.alloc _); obtain ⟨B0, hi4, hbw, hUB, hU4, hKB⟩ := hex; have HI4 := Lib.hid hi4; have HBW := Lib.hid (And.intro hbw (And.intro hUB hU4)); have HKB := Lib.hid hKB; obtain ⟨t0, t1, t2, t3, t4, t5⟩ := blk_cells6 (hKB.below hi4.bel hKB.lt); clear hN hb4 hp4 hB4 hO4 hl4 hi4 hbw hUB hU4 hKB)
      | (go_at_call 11; refine (evNew _).mono ?_; rintro e w5 ⟨lg, rfl, hb5, hl5⟩; have hex := its_BL HI4.out hb5 hl5; obtain ⟨γ5, hi5⟩ := hex; obtain ⟨t0, t1, t2, t3, t4, t5⟩ := blk_cells6 (HKB.out.below hi5.bel HKB.out.lt); have HI5 := Lib.hid hi5; clear hb5 hl5 hi5)
      | (go_at_call 12; refine (HSN.out _ A3 c3 _ γ5 p lg HI5.out.g0 (fun b hb => Nat.lt_of_lt_of_le (HBW.out.2.1 b hb) HI5.out.bel.size) (HBW.out.2.2.below HI5.out.bel HBW.out.2.1) (Nat.lt_of_lt_of_le HT.out.1 (Nat.le_trans HBW.out.1.size HI5.out.bel.size)) ((HT.out.2.below HBW.out.1 HT.out.1).below HI5.out.bel (Nat.lt_of_lt_of_le HT.out.1 HBW.out.1.size))).mono ?_; rintro e w6 ⟨g, EA, EC, LA, LC, rfl, hb6, hg6, hs6⟩; have hex := its_BLN HI5.out hb6 hs6; obtain ⟨γ6, hi6⟩ := hex; obtain ⟨t0, t1, t2, t3, t4, t5⟩ := blk_cells6 (HKB.out.below hi6.bel HKB.out.lt); have HI6 := Lib.hid (show Its B0 (fun _ => 0) NoId [itB 80 22 175 .u64 1 p (sN 4 64 cp np st M64 A3 N c3).b, itL 85 100 2 lg (sN 4 64 cp np st M64 A3 N c3).ev, itSN 89 22 .u64 3 g (fun n => csX p lg (qN 4 64 cp np st A3 N c3 N EA EC) LA n LC) (qN 4 64 cp np st A3 N c3 N EA EC) LA LC (sN 4 64 cp np st M64 A3 N c3).least] w6 γ6 from hi6); clear hb6 hg6 hs6 hi6))
    obtain ⟨Rest, CP, PP, TP, Tk, Pd, GP, hal, hRt, hSt, _⟩ := HAL.out A3 c3 EA EC
    have HL := Lib.hid hal
    have HRt := Lib.hid hRt
    have HSt := Lib.hid hSt
    clear hal hRt hSt t0 t1 t2 t3 t4 t5
    go_loopw [12, 13] (fun pv iv wr => ∃ (k : Nat) (x : Int) (γ : Nat → Nat) (s : SqN), pv = .int .u64 x ∧ iv = .int .i64 k ∧ k ≤ xs.length ∧ InM M64 x ∧ Rest x s ∧ StN M64 (qN 4 64 cp np st A3 N c3 N EA EC) (300 * k) s ∧ Its B0 (fun _ => 0) NoId [itB 80 22 175 .u64 1 p s.b, itL 85 100 2 lg s.ev, itSN 89 22 .u64 3 g (fun n => csX p lg (qN 4 64 cp np st A3 N c3 N EA EC) LA n LC) (qN 4 64 cp np st A3 N c3 N EA EC) LA LC s.least] wr γ) (fun _ iv _ => xs.length - (intOf iv).toNat)
    case atStart => exact ⟨0, st, γ6, _, rfl, rfl, by omega, by unfold InM M64; omega, HRt.out, HSt.out, HI6.out⟩
    case round =>
      obtain ⟨k, x, γ, s, rfl, rfl, hk, hxm, hR, hS, hI⟩ := hrel
      obtain ⟨t0, t1, t2, t3, t4, t5⟩ := blk_cells6 (HKB.out.below hI.bel HKB.out.lt)
      have HI := Lib.hid hI
      have HR := Lib.hid hR
      have HS := Lib.hid hS
      have HXM := Lib.hid hxm
      clear hI hR hS hxm
      by_cases hlt : k < xs.length
      · have hkx : (k : Int) < xs.length := by omega
        have hgx := List.getElem?_eq_getElem hlt
        have hxb := hx _ (List.getElem_mem hlt)
        generalize xs[k] = z at hgx hxb
        obtain ⟨ab, ao, rfl, hab, hac⟩ := hA k z hgx
        have hac2 := ((HBW.out.1.trans (HI.out.bel.mono HBW.out.1.size)).cell (p := ⟨ab, ao + k, none⟩) hab).trans hac
        obtain ⟨n, hn⟩ : ∃ n : Int, n = 1 + z % cp := ⟨_, rfl⟩
        have hnb : 1 ≤ n ∧ n ≤ cp := by
          have h1 := Int.emod_nonneg z (b := cp) (by omega)
          have h2 := Int.emod_lt_of_pos z (b := cp) (by omega)
          omega
        have hnz : (cp == 0) = false := by simp; omega
        have hnz2 : cp ≠ 0 := by omega
        have hw2 : wrap64 (1 + z % cp) = n := by rw [← hn]; exact wrap64_id (by omega)
        have HN := Lib.hid (And.intro hn hnb)
        have HPX := Lib.hid (HBW.out.1.trans (HI.out.bel.mono HBW.out.1.size))
        clear hac hab hn
        obtain ⟨wA, hwA⟩ : ∃ y, y = wr := ⟨wr, rfl⟩
        subst hwA
        go_wp2_with fail
        go_quiet (fail)
        go_wp2_with fail
        rw [hw2]
        have hx7 := its_Kd (T := 45) (w' := wA.drewN nq) HI.out rfl rfl rfl (by (repeat (with_reducible first | exact Below.refl _ _ | refine Below.drew ?_ | refine below_drewN ?_ _ | refine Below.setCell ?_ ?_ _ | refine Below.alloc ?_ ?_ _)); all_goals first | omega | (dsimp only; omega) | (simp; done) | (simp; omega)) (by simp) (frsCs .u64 [] [({ n := n } : FrS)] [])
        obtain ⟨γ7, hi7⟩ := hx7
        have HI7 := Lib.hid hi7
        clear hi7
        go_loopw [16] (fun sv wr2 => ∃ (j : Nat) (γ : Nat → Nat) (s2 : SqN) (f : FrS), sv = .int .i64 (j + 1) ∧ CP x n j s2 f ∧ StN M64 (qN 4 64 cp np st A3 N c3 N EA EC) (300 * k + j) s2 ∧ Q464 B0 (fun _ => 0) NoId [] (qp1 4 45 p lg g wA.heap.size) LA LC (qN 4 64 cp np st A3 N c3 N EA EC) s2 f wr2 γ) (fun sv _ => 1000 - (intOf sv).toNat)
        case atStart => exact ⟨0, γ7, s, { n := n }, rfl, HL.out.claim0 HXM.out HN.out.2.1 HN.out.2.2 HR.out, HS.out, HI7.out⟩
        case round =>
          obtain ⟨j, γ8, s2, f, rfl, hC, hS2, hQ⟩ := hrel
          obtain ⟨hjb, hfo, hst2⟩ := HL.out.claim1 hS2 hC
          have hS3 := HL.out.stClaim (f := f) hS2
          have hcall := fun W (hW : Below wr.heap.size wr W) => q4s_claim64 (hQ.bel hW) hS2 (by omega) hfo 0
          have hmost : decide ((j : Int) + 1 ≤ 4 * cp + N + 8) = true := decide_eq_true (by omega)
          have hmost2 : decide (4 * cp + N + 8 < (j : Int) + 1) = false := decide_eq_false (by omega)
          clear hQ hS2 hC hfo
          rcases hcs : claim4 M64 (qN 4 64 cp np st A3 N c3 N EA EC) 0 s2 f with ⟨rb, s3, f3⟩
          rw [hcs] at hcall
          try dsimp only at hst2 hS3
          rw [hcs] at hst2 hS3
          try dsimp only at hst2 hS3
          have HS3 := Lib.hid hS3
          clear hS3 hcs
          rcases hst2 with ⟨rfl, hTk, hfr⟩ | ⟨rfl, hC3⟩
          · have HTK := Lib.hid hTk
            have HCALL := Lib.hid (fun W (hW : Below wr.heap.size wr W) => (hcall W hW).mono (fun e w' hq => (show e = .returned (.bool true) ∧ (∃ γ', Q464 B0 (fun _ => 0) NoId [] (qp1 4 45 p lg g wA.heap.size) LA LC (qN 4 64 cp np st A3 N c3 N EA EC) s3 f3 w' γ') ∧ w'.cell? ⟨wA.heap.size, 6, none⟩ = some (.int .u64 x) from ⟨hq.1, hq.2, by obtain ⟨γ', h'⟩ := hq.2; have h6 := h'.reg.2.2.2.1; dsimp only [qp1] at h6; rw [hfr, Nat.zero_add] at h6; exact h6⟩)))
            clear hTk hcall hfr
            go_wp2_with (go_at_call 13; refine (HCALL.out _ (by (repeat (with_reducible first | exact Below.refl _ _ | refine Below.drew ?_ | refine below_drewN ?_ _ | refine Below.setCell ?_ ?_ _ | refine Below.alloc ?_ ?_ _)); all_goals first | omega | (dsimp only; omega) | (simp; done) | (simp; omega))).mono ?_; rintro e w9 ⟨rfl, ⟨γ9, h9⟩, r6⟩; have HQ9 := Lib.hid h9; clear h9)
            have hx9 := its_K5 (T := 45) HQ9.out rfl rfl rfl rfl (frsCs .u64 [] [({ n := n, from_ := x } : FrS)] [])
            obtain ⟨γ10, hi10⟩ := hx9
            have HI10 := Lib.hid hi10
            clear hi10
            go_loopw [16] (fun sv wr3 => ∃ (jp : Nat) (γ : Nat → Nat) (s4 : SqN) (f4 : FrS), sv = .int .i64 (jp + 1) ∧ PP x n jp s4 f4 ∧ StN M64 (qN 4 64 cp np st A3 N c3 N EA EC) (300 * k + j + 1 + jp) s4 ∧ Q464 B0 (fun _ => 0) NoId [itK 4 wA.heap.size 45 (frsCs .u64 [] [(f3 : FrS)] [])] (qp1 5 45 p lg g w9.heap.size) LA LC (qN 4 64 cp np st A3 N c3 N EA EC) s4 f4 wr3 γ) (fun sv _ => 1000 - (intOf sv).toNat)
            case atStart => exact ⟨0, γ10, s3, _, rfl, HL.out.publish0 HTK.out, HS3.out, HI10.out⟩
            case round =>
              obtain ⟨jp, γ11, s4, f4, rfl, hC, hS4, hQ⟩ := hrel
              obtain ⟨hjp, hfo, hst4⟩ := HL.out.publish1 hS4 hC
              have hS5 := HL.out.stPublish (f := f4) hS4 hfo
              have hcall := fun W (hW : Below wr.heap.size wr W) => q4s_publish64 (hQ.bel hW) hS4 (by omega) hfo 0
              have hm1 : decide ((jp : Int) + 1 ≤ 4 * cp + N + 8) = true := decide_eq_true (by omega)
              have hm2 : decide (4 * cp + N + 8 < (jp : Int) + 1) = false := decide_eq_false (by omega)
              clear hQ hS4 hC hfo
              rcases hcs : publish4 M64 (qN 4 64 cp np st A3 N c3 N EA EC) 0 s4 f4 with ⟨rb, s5, f5⟩
              rw [hcs] at hcall
              try dsimp only at hst4 hS5
              rw [hcs] at hst4 hS5
              try dsimp only at hst4 hS5
              have HS5 := Lib.hid hS5
              have HCALL := Lib.hid hcall
              clear hS5 hcs hcall
              rcases hst4 with ⟨rfl, hPd⟩ | ⟨rfl, hC5⟩
              · have HPD := Lib.hid hPd
                clear hPd
                go_wp2_with (go_at_call 14; refine (HCALL.out _ (by (repeat (with_reducible first | exact Below.refl _ _ | refine Below.drew ?_ | refine below_drewN ?_ _ | refine Below.setCell ?_ ?_ _ | refine Below.alloc ?_ ?_ _)); all_goals first | omega | (dsimp only; omega) | (simp; done) | (simp; omega))).mono ?_; rintro e w10 ⟨rfl, γ12, h10⟩; have HQ10 := Lib.hid h10; clear h10)
                have hx10 := its_K6 (T := 45) HQ10.out rfl rfl rfl rfl rfl (frsCs .u64 [] [({ val := x } : FrS)] [])
                obtain ⟨γ13, hi13⟩ := hx10
                have HI13 := Lib.hid hi13
                clear hi13
                go_loopw [19] (fun mv wr4 => ∃ (jt : Nat) (γ : Nat → Nat) (s6 : SqN) (f6 : FrS), mv = .int .i64 (jt + 1) ∧ TP x n jt s6 f6 ∧ StN M64 (qN 4 64 cp np st A3 N c3 N EA EC) (300 * k + j + 2 + jp + jt) s6 ∧ Q464 B0 (fun _ => 0) NoId [itK 5 w9.heap.size 45 (frsCs .u64 [] [(f5 : FrS)] []), itK 4 wA.heap.size 45 (frsCs .u64 [] [(f3 : FrS)] [])] (qp1 6 45 p lg g w10.heap.size) LA LC (qN 4 64 cp np st A3 N c3 N EA EC) s6 f6 wr4 γ) (fun mv _ => 1000 - (intOf mv).toNat)
                case atStart => exact ⟨0, γ13, s5, _, rfl, HL.out.tip0 HPD.out, HS5.out.mono (by omega), HI13.out⟩
                case round =>
                  obtain ⟨jt, γ14, s6, f6, rfl, hC, hS6, hQ⟩ := hrel
                  obtain ⟨hjt, hfo, hst6⟩ := HL.out.tip1 hS6 hC
                  have hS7 := HL.out.stTip (f := f6) hS6 hfo
                  have hcall := fun W (hW : Below wr.heap.size wr W) => q4s_tip64 (hQ.bel hW) hS6 (by omega) hfo np
                  have hm3 : decide ((jt : Int) + 1 ≤ 4 * cp + N + 8) = true := decide_eq_true (by omega)
                  have hm4 : decide (4 * cp + N + 8 < (jt : Int) + 1) = false := decide_eq_false (by omega)
                  obtain ⟨t0, t1, t2, t3, t4, t5⟩ := blk_cells6 (HKB.out.below (Its.bel hQ) HKB.out.lt)
                  clear hQ hS6 hC hfo
                  rcases hcs : tip4 M64 (qN 4 64 cp np st A3 N c3 N EA EC) np s6 f6 with ⟨rb, s7, f7⟩
                  rw [hcs] at hcall
                  try dsimp only at hst6 hS7
                  rw [hcs] at hst6 hS7
                  try dsimp only at hst6 hS7
                  have HS7 := Lib.hid hS7
                  clear hS7 hcs
                  rcases hst6 with ⟨rfl, hGP, hval⟩ | ⟨rfl, hC7⟩
                  · have HGP := Lib.hid hGP
                    have HCALL := Lib.hid (fun W (hW : Below wr.heap.size wr W) => (hcall W hW).mono (fun e w' hq => (show e = .returned (.bool true) ∧ (∃ γ', Q464 B0 (fun _ => 0) NoId [itK 5 w9.heap.size 45 (frsCs .u64 [] [(f5 : FrS)] []), itK 4 wA.heap.size 45 (frsCs .u64 [] [(f3 : FrS)] [])] (qp1 6 45 p lg g w10.heap.size) LA LC (qN 4 64 cp np st A3 N c3 N EA EC) s7 f7 w' γ') ∧ w'.cell? ⟨w10.heap.size, 8, none⟩ = some (.int .u64 (addM M64 x n)) from ⟨hq.1, hq.2, by obtain ⟨γ', h'⟩ := hq.2; have h6 := h'.reg.2.2.2.2.2.1; dsimp only [qp1] at h6; rw [hval, Nat.zero_add] at h6; exact h6⟩)))
                    clear hGP hcall hval
                    go_wp2_with (first
                      | (go_at_call 15; refine (HCALL.out _ (by (repeat (with_reducible first | exact Below.refl _ _ | refine Below.drew ?_ | refine below_drewN ?_ _ | refine Below.setCell ?_ ?_ _ | refine Below.alloc ?_ ?_ _)); all_goals first | omega | (dsimp only; omega) | (simp; done) | (simp; omega))).mono ?_; rintro e w14 ⟨rfl, ⟨γ15, h14⟩, r8⟩; have HQ14 := Lib.hid h14; clear h14)
                      | (go_at_call 16; refine (add64 _ _ _).mono ?_; rintro e w' ⟨rfl, rfl⟩))
                    have HD := Lib.hid (drop3 HQ14.out rfl rfl rfl)
                    obtain ⟨t0, t1, t2, t3, t4, t5⟩ := blk_cells6 (HKB.out.below HD.out.bel HKB.out.lt)
                    clear t0 t1 t2 t3 t4 t5
                    go_loopw [20] (fun kv wr5 => ∃ (j5 : Nat) (γ : Nat → Nat) (s8 : SqN), kv = .int .i64 j5 ∧ j5 ≤ N ∧ GP (addM M64 x n) j5 s8 ∧ StN M64 (qN 4 64 cp np st A3 N c3 N EA EC) (300 * k + j + 3 + jp + jt + j5) s8 ∧ Its B0 (fun _ => 0) NoId [itB 80 22 175 .u64 1 p s8.b, itL 85 100 2 lg s8.ev, itSN 89 22 .u64 3 g (fun n => csX p lg (qN 4 64 cp np st A3 N c3 N EA EC) LA n LC) (qN 4 64 cp np st A3 N c3 N EA EC) LA LC s8.least] wr5 γ) (fun kv _ => N - (intOf kv).toNat)
                    case atStart => exact ⟨0, γ15, s7, rfl, by omega, HGP.out, HS7.out.mono (by omega), HD.out⟩
                    case round =>
                      obtain ⟨j5, γ16, s8, rfl, hj5, hP8, hS8, hI8⟩ := hrel
                      obtain ⟨t0, t1, t2, t3, t4, t5⟩ := blk_cells6 (HKB.out.below hI8.bel HKB.out.lt)
                      by_cases hl5 : j5 < N
                      · have hl5i : (j5 : Int) < N := by omega
                        have hsc := fun W (hW : Below wr.heap.size wr W) (t : Int) => (bStore64 W γ16 1 p s8.b (Its.g0 (hI8.below hW)) hS8.fit.ok (by have := hS8.log; omega) t j5 (addM M64 x n) (addM_in64 _ _)).mono (fun e w' hq => Its.mut0 (hI8.below hW) hq)
                        have HSC := Lib.hid hsc
                        have HP8 := Lib.hid (fun t => HL.out.gate1 hS8 hP8 hl5 t)
                        have HS8 := Lib.hid (fun t => HL.out.stGate (t := t) (k := j5) hS8 (addM_in64 x n))
                        clear hsc hP8 hS8 hI8
                        go_wp2_with (go_at_call 17; refine (HSC.out _ (by (repeat (with_reducible first | exact Below.refl _ _ | refine Below.drew ?_ | refine below_drewN ?_ _ | refine Below.setCell ?_ ?_ _ | refine Below.alloc ?_ ?_ _)); all_goals first | omega | (dsimp only; omega) | (simp; done) | (simp; omega)) _).mono ?_; rintro e w20 ⟨rfl, γ17, h17⟩; have HI17 := Lib.hid h17; clear h17)
                        go_roundw
                        case rel => exact ⟨j5 + 1, γ17, { s8 with b := _ }, by go_num, by omega, HP8.out _, HS8.out _, HI17.out⟩
                        case measure => simp only [intOf]; omega
                      · have HE := Lib.hid (HL.out.gate2 hP8 (by omega))
                        have HS8 := Lib.hid (hS8.mono (m := 300 * (k + 1)) (by have := HP.out.2.2; have := HP.out.2.1; omega))
                        have HI8 := Lib.hid hI8
                        clear hP8 hS8 hI8
                        go_wp2_with fail
                        go_roundw
                        case rel => exact ⟨k + 1, addM M64 x n, γ16, s8, rfl, by go_num, by omega, addM_in64 _ _, HE.out, HS8.out, HI8.out⟩
                        case measure => simp only [intOf]; omega
                  · have HC7 := Lib.hid hC7
                    have HCALL := Lib.hid hcall
                    clear hC7 hcall
                    go_wp2_with (go_at_call 15; refine (HCALL.out _ (by (repeat (with_reducible first | exact Below.refl _ _ | refine Below.drew ?_ | refine below_drewN ?_ _ | refine Below.setCell ?_ ?_ _ | refine Below.alloc ?_ ?_ _)); all_goals first | omega | (dsimp only; omega) | (simp; done) | (simp; omega))).mono ?_; rintro e w14 ⟨rfl, γ15, h14⟩; have HQ14 := Lib.hid h14; clear h14)
                    go_roundw
                    case rel => exact ⟨jt + 1, γ15, s7, f7, by go_num, HC7.out, HS7.out, HQ14.out⟩
                    case measure => simp only [intOf]; omega
              · have HC5 := Lib.hid hC5
                clear hC5
                go_wp2_with (go_at_call 14; refine (HCALL.out _ (by (repeat (with_reducible first | exact Below.refl _ _ | refine Below.drew ?_ | refine below_drewN ?_ _ | refine Below.setCell ?_ ?_ _ | refine Below.alloc ?_ ?_ _)); all_goals first | omega | (dsimp only; omega) | (simp; done) | (simp; omega))).mono ?_; rintro e w10 ⟨rfl, γ12, h10⟩; have HQ10 := Lib.hid h10; clear h10)
                go_roundw
                case rel => exact ⟨jp + 1, γ12, s5, f5, by go_num, HC5.out, HS5.out, HQ10.out⟩
                case measure => simp only [intOf]; omega
          · have HC3 := Lib.hid hC3
            have HCALL := Lib.hid hcall
            clear hC3 hcall
            go_wp2_with (go_at_call 13; refine (HCALL.out _ (by (repeat (with_reducible first | exact Below.refl _ _ | refine Below.drew ?_ | refine below_drewN ?_ _ | refine Below.setCell ?_ ?_ _ | refine Below.alloc ?_ ?_ _)); all_goals first | omega | (dsimp only; omega) | (simp; done) | (simp; omega))).mono ?_; rintro e w9 ⟨rfl, γ9, h9⟩; have HQ9 := Lib.hid h9; clear h9)
            go_roundw
            case rel => exact ⟨j + 1, γ9, s3, f3, by go_num, HC3.out, HS3.out, HQ9.out⟩
            case measure => simp only [intOf]; omega
      · go_wp2_with (go_at_call 8; refine (live_at22 HV.out (HBW.out.1.trans (HI.out.bel.mono HBW.out.1.size)) _ (by (repeat (with_reducible first | exact Below.refl _ _ | refine Below.drew ?_ | refine below_drewN ?_ _ | refine Below.setCell ?_ ?_ _ | refine Below.alloc ?_ ?_ _)); all_goals first | omega | (dsimp only; omega) | (simp; done) | (simp; omega))).mono ?_; rintro e w20 ⟨rfl, hb20⟩; have HB20 := Lib.hid hb20; clear hb20)
        go_ret
        exact ⟨rfl, HB20.out⟩
end Go.Proofs.YtnkmlopjinihiaaGreatDoor
