/- sakialaw17.played returns true: both boards are published on and sought alike. -/
import Derived.Test.YtmjpdojecdnkjaaGreatMarkPW
import Derived.Test.YtmjpdojecdnkjaaGreatOpenD
namespace Go.Proofs.YtmjpdojecdnkjaaGreat
open Go.RowKit
set_option linter.unusedVariables false
set_option linter.unusedSimpArgs false
set_option maxHeartbeats 4000000

set_option maxRecDepth 100000 in
theorem played17_32 (c : Cf) (up : List (List Int)) (hun : c.un = up.length) (hok : CfOk c up) (hll6 : ∀ l ∈ up, l.length ≤ 1000000) (hst : 0 ≤ c.start ∧ c.start ≤ 18446744073709551615) (hwid : c.width = 32) (ds : List (List Int)) (hd6 : ∀ d ∈ ds, d.length = [IntKind.i64, IntKind.i64].length ∧ ∀ (j : Nat) (k : IntKind) (x : Int), [IntKind.i64, IntKind.i64][j]? = some k → d[j]? = some x → (Lit.int k x).wf = true) (hdl : ds.length ≤ 60) (A : Option Addr) (xc : Nat) (from_ : Int) (w0 : World)
    (hU : UpAt w0 (fun b => b < w0.heap.size) c.ua up) (hA : DosAt w0 (fun b => b < w0.heap.size) [.i64, .i64] A ds) :
    Calls Tryz.prog 22 #[.agg c.vs.toArray, .slice A ds.length xc, .int .i64 from_] w0 fun e w' => e = .returned (.bool true) ∧ Below w0.heap.size w0 w' := by
  obtain ⟨variant, width, cap, producers, start, ua, un, uc⟩ := c
  unfold Cf.vs at *
  dsimp only at *
  subst hwid
  have hvar := hok.variant
  have hcap := hok.cap
  have HOF := Lib.hid (fun W (hW : Below w0.heap.size w0 W) => layof (fun b => b < w0.heap.size) ⟨variant, 32, cap, producers, start, ua, un, uc⟩ up hun hok hll6 W (fun b hb => Nat.lt_of_lt_of_le hb hW.size) (hU.below hW (fun b hb => hb)))
  have HNW := Lib.hid (fun (Bk : Nat → Prop) ua uc W hB hU => bnew32 Bk ⟨variant, 32, cap, producers, start, ua, un, uc⟩ up hun (hok.ua ua uc) rfl hst hll6 W hB hU)
  have HFT := Lib.hid (fun ua uc => newBS_fit ⟨variant, 32, cap, producers, start, ua, un, uc⟩ (hok.ua ua uc) hun)
  have HRN := Lib.hid (fun W => rnew12 ⟨variant, 32, cap, producers, start, ua, un, uc⟩ hok hun hst W)
  have HVC := Lib.hid (And.intro hvar hcap)
  have HST := Lib.hid (fun W => rstartI ⟨variant, 32, cap, producers, start, ua, un, uc⟩ (by first | exact .inl rfl | exact .inr rfl) hst W)
  unfold Cf.vs at HOF HRN HST
  unfold Lay.vs at HNW
  dsimp only at HOF HRN HNW HFT HVC HST
  subst hun
  obtain ⟨d, hd⟩ : ∃ d : Bool, ∀ ua uc, (newBS (mkLay ⟨variant, 32, cap, producers, start, ua, up.length, uc⟩)).hasM = d := ⟨decide (mkKind variant ≠ 0), fun ua uc => made_marks _⟩
  have hdd : (d != d) = false := by cases d <;> rfl
  have HAX := Lib.hid (And.intro hA hd6)
  have hcin : InM M32 (cutM (MW 32) start) := cutM_in32 _
  generalize cutM (MW 32) start = sv at *
  have hMW : MW 32 = M32 := MW_32
  have HPL := Lib.hid (fun n W => rplus 32 sv n (by first | exact .inl rfl | exact .inr rfl) (inM_u64_32 hcin) W)
  rw [hMW] at HPL
  have hpin : InM M32 (addM M32 sv from_) := addM_in32 _ _
  have HPU := Lib.hid (inM_u64_32 hpin)
  have HOV := Lib.hid (fun W => of32 (addM M32 sv from_) HPU.out W)
  rw [cut_id32 hpin] at HOV
  clear hU hll6 hst hok hvar hcap hA hd6
  go_enter Tryz.func22, Tryz.ntmps22
  go_wp2_with (first
    | (go_at_call 12; have hW1 := ((Below.refl w0.heap.size w0).alloc (Nat.le_refl _) (Obj.cells #[.int .i64 variant, .int .i64 32, .int .i64 cap, .int .i64 producers, .int .u64 start, .slice ua up.length uc] 25)); have hq := HOF.out _ hW1; refine hq.mono ?_; clear hq; rintro e w3 ⟨A3, c3, rfl, hcl3, hU3, hb3⟩; unfold Lay.vs; obtain ⟨hc3, hf3⟩ := bcell hb3; have HU3 := Lib.hid hU3; have HB3 := Lib.hid hb3; have hz3 : w0.heap.size < w3.heap.size := Nat.lt_of_lt_of_le (by simp) hb3.size; have hy3 : w0.heap.size < w3.heap.size + 1 := Nat.lt_succ_of_lt hz3; have HW3 := Lib.hid hb3; clear hU3 hb3 hcl3 hW1))
  go_region_held3 (fun w' => w'.cell? ⟨w0.heap.size, 0, none⟩ = some (.int .i64 variant) ∧ w'.cell? ⟨w0.heap.size, 1, none⟩ = some (.int .i64 32) ∧ w'.cell? ⟨w0.heap.size, 2, none⟩ = some (.int .i64 cap) ∧ w'.cell? ⟨w0.heap.size, 3, none⟩ = some (.int .i64 producers) ∧ w'.cell? ⟨w0.heap.size, 4, none⟩ = some (.int .u64 start) ∧ w'.cell? ⟨w0.heap.size, 5, none⟩ = some (.slice ua up.length uc)
      ∧ w'.cell? ⟨w3.heap.size, 0, none⟩ = some (.int .i64 (mkLay ⟨variant, 32, cap, producers, start, A3, up.length, c3⟩).c.variant) ∧ w'.cell? ⟨w3.heap.size, 1, none⟩ = some (.int .i64 (mkLay ⟨variant, 32, cap, producers, start, A3, up.length, c3⟩).c.width) ∧ w'.cell? ⟨w3.heap.size, 2, none⟩ = some (.int .i64 (mkLay ⟨variant, 32, cap, producers, start, A3, up.length, c3⟩).c.cap) ∧ w'.cell? ⟨w3.heap.size, 3, none⟩ = some (.int .i64 (mkLay ⟨variant, 32, cap, producers, start, A3, up.length, c3⟩).c.producers) ∧ w'.cell? ⟨w3.heap.size, 4, none⟩ = some (.int .u64 (mkLay ⟨variant, 32, cap, producers, start, A3, up.length, c3⟩).c.start) ∧ w'.cell? ⟨w3.heap.size, 5, none⟩ = some (.slice (mkLay ⟨variant, 32, cap, producers, start, A3, up.length, c3⟩).c.ua (mkLay ⟨variant, 32, cap, producers, start, A3, up.length, c3⟩).c.un (mkLay ⟨variant, 32, cap, producers, start, A3, up.length, c3⟩).c.uc) ∧ w'.cell? ⟨w3.heap.size, 6, none⟩ = some (.int .i64 (mkLay ⟨variant, 32, cap, producers, start, A3, up.length, c3⟩).cursor) ∧ w'.cell? ⟨w3.heap.size, 7, none⟩ = some (.int .i64 (mkLay ⟨variant, 32, cap, producers, start, A3, up.length, c3⟩).claim) ∧ w'.cell? ⟨w3.heap.size, 8, none⟩ = some (.int .i64 (mkLay ⟨variant, 32, cap, producers, start, A3, up.length, c3⟩).ticket) ∧ w'.cell? ⟨w3.heap.size, 9, none⟩ = some (.int .i64 (mkLay ⟨variant, 32, cap, producers, start, A3, up.length, c3⟩).serving) ∧ w'.cell? ⟨w3.heap.size, 10, none⟩ = some (.int .i64 (mkLay ⟨variant, 32, cap, producers, start, A3, up.length, c3⟩).next) ∧ w'.cell? ⟨w3.heap.size, 11, none⟩ = some (.int .i64 (mkLay ⟨variant, 32, cap, producers, start, A3, up.length, c3⟩).marks) ∧ w'.cell? ⟨w3.heap.size, 12, none⟩ = some (.int .i64 (mkLay ⟨variant, 32, cap, producers, start, A3, up.length, c3⟩).slots) ∧ w'.cell? ⟨w3.heap.size, 13, none⟩ = some (.int .i64 (mkLay ⟨variant, 32, cap, producers, start, A3, up.length, c3⟩).cells)) (go_keep)
    (first | (go_at_call 29; refine (HNW.out _ A3 c3 _ (by intro b hb; have := hb.2; simp; omega) (HU3.out.below (B := w3.heap.size) (by (repeat (with_reducible first | exact Below.refl _ _ | refine Below.drew ?_ | refine below_drewN ?_ _ | refine Below.setCell ?_ ?_ _ | refine Below.alloc ?_ ?_ _)); all_goals first | omega | (dsimp only; omega) | (simp; omega)) (fun b hb => hb.2))).mono ?_; intro e w4 hN; obtain ⟨p, γ4, rfl, hb4, hp4, hB4, hO4, hl4⟩ := new_old 110 (w0 := (w0.alloc (Obj.cells #[.int .i64 variant, .int .i64 32, .int .i64 cap, .int .i64 producers, .int .u64 start, .slice ua up.length uc] 25))) (by (repeat (with_reducible first | exact HW3.out | refine Below.drew ?_ | refine below_drewN ?_ _ | refine Below.alloc ?_ ?_ _)); all_goals first | exact HW3.out.size | (have := HW3.out.size; simp at this; simp; omega)) hN; obtain ⟨hc4, hf4⟩ := bcell hb4; have hz4 : w3.heap.size < w4.heap.size := Nat.lt_of_lt_of_le (by simp) hb4.size; have hy4 : w0.heap.size < w4.heap.size := Nat.lt_trans hz3 hz4; have HB4 := Lib.hid hb4; have HN4 := Lib.hid (And.intro hB4 (And.intro hO4 hp4)); clear hN hb4 hp4 hB4 hO4 hl4) | (go_at_call 14; refine (HRN.out _).mono ?_; intro e w5 hN; obtain ⟨q, rfl, hb5, _, hRR⟩ := refNew_at (c1 := ⟨variant, 32, cap, producers, start, A3, up.length, c3⟩) HVC.out.1 HVC.out.2 rfl hN; obtain ⟨hc5, hf5⟩ := bcell hb5; have hz5 : w4.heap.size ≤ w5.heap.size := Nat.le_trans (by simp) hb5.size; have hp5 := pp5 HN4.out.2.1 HN4.out.1 (by (repeat (with_reducible first | exact Below.refl _ _ | refine Below.drew ?_ | refine below_drewN ?_ _ | refine Below.setCell ?_ ?_ _ | refine Below.alloc ?_ ?_ _)); all_goals first | omega | (dsimp only; omega) | (simp; omega)) hRR; obtain ⟨γ5, hq5⟩ := hp5; have HP5 := Lib.hid (its_pair hq5.1 hq5.2.1 hq5.2.2); clear hN hb5 hRR hq5))
  have hj11 : (Tryz.prog.info? 75).map (·.size) = some 11 := by kernel_rfl
  go_wp2_with (first
    | (refine wpList_store_made2 (by rfl) 75 (.tmp 14) (.tmp 49) (by rfl) _ _ _ _ (frsCs .u64 [] [{ val := addM M32 sv from_ }] []) (by rfl) (by rfl) (by rfl) (by simp) (by rfl) (by exact hj11) (by rfl) (by kernel_rfl) ?_)
    | (go_at_call 80; refine (HOV.out _).mono ?_; rintro e w' ⟨rfl, rfl⟩)
    | (go_at_call 79; refine (HPL.out _ _).mono ?_; rintro e w' ⟨rfl, rfl⟩)
    | (go_at_call 78; refine (HST.out _).mono ?_; rintro e w7 ⟨rfl, hb7⟩; have hi7 := (HI6.out.below (by (repeat (with_reducible first | exact Below.refl _ _ | refine Below.drew ?_ | refine below_drewN ?_ _ | refine Below.setCell ?_ ?_ _ | refine Below.alloc ?_ ?_ _)); all_goals first | omega | (dsimp only; omega) | (simp; omega))).below hb7; obtain ⟨v0, v1, v2, v3, v4, v5⟩ := blk_cells6 ((Blk.new w0 25 _).below hi7.bel (by simp)); have hs7 := its_four (tF := 66) (tG := 75) hi7 (frsCs .u32 [] [{ val := addM M32 sv from_ }] []) (frsCs .u64 [] [{ val := addM M32 sv from_ }] []); obtain ⟨γ7, hS7⟩ := hs7; have HS := Lib.hid hS7; clear hb7 hi7 hS7)
    | (go_at_call 77; refine (r17Has _ γ5 4 q _ _ (HI6.out.below (by (repeat (with_reducible first | exact Below.refl _ _ | refine Below.drew ?_ | refine below_drewN ?_ _ | refine Below.setCell ?_ ?_ _ | refine Below.alloc ?_ ?_ _)); all_goals first | omega | (dsimp only; omega) | (simp; omega))).g1).mono ?_; rintro e w' ⟨he, hw⟩; rw [hd] at he; subst he hw)
    | (go_at_call 76; refine (mhas32 _ γ5 1 p _ (HP5.out.below (by (repeat (with_reducible first | exact Below.refl _ _ | refine Below.drew ?_ | refine below_drewN ?_ _ | refine Below.setCell ?_ ?_ _ | refine Below.alloc ?_ ?_ _)); all_goals first | omega | (dsimp only; omega) | (simp; omega))).g0).mono ?_; rintro e w6 ⟨he, hb6⟩; rw [hd] at he; subst he; have hi6 := (HP5.out.below (by (repeat (with_reducible first | exact Below.refl _ _ | refine Below.drew ?_ | refine below_drewN ?_ _ | refine Below.setCell ?_ ?_ _ | refine Below.alloc ?_ ?_ _)); all_goals first | omega | (dsimp only; omega) | (simp; omega))).below hb6; obtain ⟨u0, u1, u2, u3, u4, u5⟩ := blk_cells6 ((Blk.new w0 25 _).below hi6.bel (by simp)); have HI6 := Lib.hid hi6; clear hb6 hi6))
  try clear HOF HNW HRN HVC HST hd hdd hj11 hc3 hf3 hz3 hy3 hc4 hf4 hz4 hy4 hc5 hf5 hz5 HP5 HN4 HB4 HB3 HU3 HW3 HI6 u0 u1 u2 u3 u4 u5 v0 v1 v2 v3 v4 v5
  go_loopw [15] (fun i wr => ∃ (k : Nat) (f : FrS) (γ : Nat → Nat) (b : BS), i = .int .i64 k ∧ k ≤ ds.length ∧ Its (w0.alloc (Obj.cells #[.int .i64 variant, .int .i64 32, .int .i64 cap, .int .i64 producers, .int .u64 start, .slice ua up.length uc] 25)) (fun _ => 0) NoId [itB 134 31 110 .u32 1 p b, itR 4 q ⟨variant, 32, cap, producers, start, ua, up.length, uc⟩ b, itK 2 w7.heap.size 66 (frsCs .u32 [] [f] []), itK 5 (w7.heap.size + 1) 75 (frsCs .u64 [] [f] [])] wr γ ∧ b.Fit M32 ∧ b.log.length ≤ 9 * k ∧ InM M32 f.val) (fun i _ => ds.length - (intOf i).toNat)
  case atStart => exact ⟨0, { val := addM M32 sv from_ }, _, _, rfl, by omega, HS.out, HFT.out A3 c3, by show (0 : Nat) ≤ _; omega, hpin⟩
  case round =>
    obtain ⟨k, f, γ, b, rfl, hk, hits, hfit, hlg, hval⟩ := hrel
    have hbw : Below w0.heap.size w0 wr := below_new hits.bel
    by_cases hlt : k < ds.length
    · have hkx : (k : Int) < ds.length := by omega
      have hgx := List.getElem?_eq_getElem hlt
      have hxb := HAX.out.2 _ (List.getElem_mem hlt)
      generalize ds[k] = dd at hgx hxb
      obtain ⟨hd2, ab, ao, rfl, hab, hac⟩ := HAX.out.1 k dd hgx
      match dd, hd2 with
      | [at_, nn], _ =>
      have hw0 := hxb.2 0 .i64 at_ rfl rfl
      have hw1 := hxb.2 1 .i64 nn rfl rfl
      have ha0 : wr.cell? ⟨ab, ao + k * 2, none⟩ = some (.int .i64 at_) := (hbw.cell (p := ⟨ab, _, none⟩) hab).trans (hac 0 .i64 at_ rfl rfl)
      have ha1 : wr.cell? ⟨ab, ao + k * 2 + 1, none⟩ = some (.int .i64 nn) := (hbw.cell (p := ⟨ab, _, none⟩) hab).trans (hac 1 .i64 nn rfl rfl)
      have hcw : wr.cell? ⟨w0.heap.size, 1, none⟩ = some (.int .i64 32) := (hits.bel.cell (p := ⟨w0.heap.size, 1, none⟩) (by simp)).trans ((Blk.new w0 25 _).cell 1)
      have hnb := bounds_i64 hw1
      clear hac hgx hxb hw0 hw1
      by_cases hnn : 0 < nn
      · have hm0 := Int.emod_nonneg nn (b := 9) (by decide)
        have hm1 := Int.emod_lt_of_pos nn (b := 9) (by decide)
        have htm : Int.tmod nn 9 = nn % 9 := Int.tmod_eq_emod_of_nonneg (by omega)
        have hwm : wrap64 (nn % 9) = nn % 9 := wrap64_id (by omega)
        have hwm2 : IntKind.i64.wrap (nn % 9) = nn % 9 := by simp [IntKind.wrap, IntKind.bits, IntKind.signed]; omega
        have HPB := Lib.hid (fun W (hW : Below wr.heap.size wr W) => published17_32 W γ p q ⟨variant, 32, cap, producers, start, ua, up.length, uc⟩ b (hits.below hW).g0 (hits.below hW).g1 hfit (by omega) (by first | exact .inl rfl | exact .inr rfl) (by exact hMW.symm) (addM M32 sv at_) (nn % 9) (addM_in32 _ _) ⟨hm0, by omega⟩)
        have HI := Lib.hid hits
        have HLG := Lib.hid (And.intro hlg hval)
        clear hits hlg hval hfit
        go_wp2_with fail
        go_region_with (first
          | (go_at_call 79; refine (HPL.out _ _).mono ?_; rintro e w' ⟨rfl, rfl⟩)
          | (go_at_call 81
             refine (HPB.out _ (by (repeat (with_reducible first | exact Below.refl _ _ | refine Below.drew ?_ | refine below_drewN ?_ _ | refine Below.setCell ?_ ?_ _ | refine Below.alloc ?_ ?_ _)); all_goals first | omega | (dsimp only; omega) | (simp; omega))).mono ?_
             rintro e w8 ⟨rfl, γ8, b8, hB8, hR8, hfr8, hf8, hl8⟩
             have hi8 := (HI.out.below (by (repeat (with_reducible first | exact Below.refl _ _ | refine Below.drew ?_ | refine below_drewN ?_ _ | refine Below.setCell ?_ ?_ _ | refine Below.alloc ?_ ?_ _)); all_goals first | omega | (dsimp only; omega) | (simp; omega))).step2 0 1 _ _ (itB 134 31 110 .u32 1 p b8) (itR 4 q ⟨variant, 32, cap, producers, start, ua, up.length, uc⟩ b8) (by decide) rfl rfl rfl rfl hfr8 hB8 hR8
             have HI8 := Lib.hid (And.intro hi8 (And.intro hf8 hl8))
             clear hB8 hR8 hfr8 hf8 hl8 hi8))
        all_goals go_wp2_with fail
        all_goals go_round
        any_goals (case rel => exact ⟨k + 1, f, γ8, b8, by go_num, by omega, HI8.out.1.below (by (repeat (with_reducible first | exact Below.refl _ _ | refine Below.drew ?_ | refine below_drewN ?_ _ | refine Below.setCell ?_ ?_ _ | refine Below.alloc ?_ ?_ _)); all_goals first | omega | (dsimp only; omega) | (simp; omega)), HI8.out.2.1, by have := HI8.out.2.2; have := HLG.out.1; omega, HLG.out.2⟩)
        all_goals (simp only [intOf]; omega)
      · have hE := mseek32 (bfI 66 1 2 p w7.heap.size (by decide)) wr γ wr γ b f (bfI_at hits.g0 hits.g2) hfit (by omega) 0 hval
        have hR := fun w3 γ3 b3 f3 (h3 : Its (w0.alloc (Obj.cells #[.int .i64 variant, .int .i64 32, .int .i64 cap, .int .i64 producers, .int .u64 start, .slice ua up.length uc] 25)) (fun _ => 0) NoId [itB 134 31 110 .u32 1 p b3, itR 4 q ⟨variant, 32, cap, producers, start, ua, up.length, uc⟩ b, itK 2 w7.heap.size 66 (frsCs .u32 [] [f3] []), itK 5 (w7.heap.size + 1) 75 (frsCs .u64 [] [f] [])] w3 γ3) => r17Seek w3 γ3 4 q ⟨variant, 32, cap, producers, start, ua, up.length, uc⟩ b h3.g1 hfit (by omega) (by first | exact .inl rfl | exact .inr rfl) (by exact hMW.symm) 0 f hval
        have hS := seekP_step hfit 0 f hval
        obtain ⟨op, n, phase, pc, i, j, fr_, min, val, own, da, dn, dc⟩ := f
        dsimp only at hval
        generalize hr : seekP M32 b 0 _ = r at hE hR hS
        obtain ⟨d', b2, op2, n2, ph2, pc2, i2, j2, fr2, mi2, va2, ow2, da2, dn2, dc2⟩ := r
        dsimp only at hE hR hS
        obtain ⟨hS1, hS2, hS3, hS4⟩ := hS
        cases hS3
        unfold FrS.vs at hR
        dsimp only at hR
        have HE := Lib.hid hE
        have HR := Lib.hid hR
        have HSS := Lib.hid (And.intro hS1 (And.intro (show b2.log.length ≤ 9 * (k + 1) by omega) hS4))
        have HI := Lib.hid hits
        have hq1 : va2 % 18446744073709551616 = va2 := by have := inM_u64_32 hS4; omega
        have hq2 : IntKind.u64.wrap va2 = va2 := by have := inM_u64_32 hS4; simp [IntKind.wrap, IntKind.bits, IntKind.signed]; omega
        have hdd' : (d' != d') = false := by cases d' <;> rfl
        have HMA := Lib.hid (fun W γ' (hW : BoardAt 134 31 110 .u32 W γ' 1 p b2) => mmarked32 W γ' 1 p b2 hW hS1 va2 hS4)
        have HMR := Lib.hid (fun W γ' (hW : RefAt W γ' 4 q ⟨variant, 32, cap, producers, start, ua, up.length, uc⟩ b2) => r17Marked W γ' 4 q ⟨variant, 32, cap, producers, start, ua, up.length, uc⟩ b2 hW hS1 va2 (inM_u64_32 hS4))
        generalize b2.marked va2 = mk at HMA HMR
        have hmm : (mk != mk) = false := by cases mk <;> rfl
        clear hE hR hr hS1 hS2 hits hfit hlg hval hS4
        go_wp2_with (first
          | (go_at_call 82
             refine HE.out.mono ?_
             intro e w10 hq
             obtain ⟨rfl, γ10, h10⟩ := HI.out.bf 0 2 (by decide) rfl rfl hq
             obtain ⟨y0, y1, y2, y3, y4, y5, y6, y7, y8, y9, y10⟩ := blk_cells11 h10.g3.1
             have HI10 := Lib.hid h10
             clear hq h10)
          | (go_at_call 83
             refine (HR.out _ _ _ _ HI10.out).mono ?_
             intro e w11 hq
             obtain ⟨rfl, γ11, h11⟩ := HI10.out.rmut 1 rfl hq
             obtain ⟨x0, x1, x2, x3, x4, x5, x6, x7, x8, x9, x10⟩ := blk_cells11 h11.g2.1
             obtain ⟨y0, y1, y2, y3, y4, y5, y6, y7, y8, y9, y10⟩ := blk_cells11 h11.g3.1
             have hz3 := h11.g3.1.frozen
             have hl3 : w7.heap.size + 1 < w11.heap.size := h11.g3.1.lt
             have hl2 : w7.heap.size < w11.heap.size := h11.g2.1.lt
             have HI11 := Lib.hid h11
             clear hq h11))
        have hp11 := HI11.out.put11 3 5 (w7.heap.size + 1) 75 _ (by rfl) rfl (.int .i64 op) (.int .i64 n) (.int .i64 phase) (.int .i64 pc) (.int .i64 i) (.int .i64 j) (.int .u64 fr_) (.int .u64 min) (.int .u64 va2) (.int .u64 own) (.slice da dn dc)
        have hpa := hp11.alloc (Obj.cells #[.int .i64 op, .int .i64 n, .int .i64 phase, .int .i64 pc, .int .i64 i, .int .i64 j, .int .u64 fr_, .int .u64 min, .int .u64 va2, .int .u64 own, .slice da dn dc] 75)
        obtain ⟨r0, r1, r2, r3, r4, r5, r6, r7, r8, r9, r10⟩ := blk_cells11 hpa.g3.1
        obtain ⟨s0, s1, s2, s3, s4, s5, s6, s7, s8, s9, s10⟩ := blk_cells11 hpa.g2.1
        have HP := Lib.hid hpa
        clear hp11 hpa
        go_region_held3 (fun w' => w'.cell? ⟨w7.heap.size, 8, none⟩ = some (.int .u32 va2) ∧ w'.cell? ⟨w7.heap.size + 1, 8, none⟩ = some (.int .u64 va2)) (go_keep) (first
          | (go_at_call 75; refine (HMA.out _ _ (HP.out.below (by (repeat (with_reducible first | exact Below.refl _ _ | refine Below.drew ?_ | refine below_drewN ?_ _ | refine Below.setCell ?_ ?_ _ | refine Below.alloc ?_ ?_ _)); all_goals first | omega | (dsimp only; omega) | (simp; omega))).g0).mono ?_; rintro e w12 ⟨rfl, hb12⟩; have h12 := (HP.out.below (by (repeat (with_reducible first | exact Below.refl _ _ | refine Below.drew ?_ | refine below_drewN ?_ _ | refine Below.setCell ?_ ?_ _ | refine Below.alloc ?_ ?_ _)); all_goals first | omega | (dsimp only; omega) | (simp; omega))).below hb12; have hq12 : w12.cell? ⟨w7.heap.size, 8, none⟩ = some (.int .u32 va2) := h12.g2.1.cell 8; have hr12 : w12.cell? ⟨w7.heap.size + 1, 8, none⟩ = some (.int .u64 va2) := h12.g3.1.cell 8; have HI12 := Lib.hid h12; clear hb12 h12)
          | (go_at_call 84; refine (HMR.out _ _ (HI12.out.below (by (repeat (with_reducible first | exact Below.refl _ _ | refine Below.drew ?_ | refine below_drewN ?_ _ | refine Below.setCell ?_ ?_ _ | refine Below.alloc ?_ ?_ _)); all_goals first | omega | (dsimp only; omega) | (simp; omega))).g1).mono ?_; rintro e w' ⟨rfl, n13, rfl⟩))
        go_wp2_with fail
        go_round
        case rel => exact ⟨k + 1, ⟨op, n, phase, pc, i, j, fr_, min, va2, own, da, dn, dc⟩, _, b2, by go_num, by omega, HI12.out.below (by (repeat (with_reducible first | exact Below.refl _ _ | refine Below.drew ?_ | refine below_drewN ?_ _ | refine Below.setCell ?_ ?_ _ | refine Below.alloc ?_ ?_ _)); all_goals first | omega | (dsimp only; omega) | (simp; omega)), HSS.out.1, HSS.out.2.1, HSS.out.2.2⟩
        case measure => simp only [intOf]; omega
    · obtain rfl : k = ds.length := by omega
      have href := hits.g1
      obtain ⟨rc, cv, hv2, lv, hRF, hRR⟩ := href
      obtain ⟨AL, cL, rfl, _⟩ := own_form hRF.log.1
      have hlg8 : wr.cell? ⟨q, 8, none⟩ = some (.slice AL b.log.length cL) := hRF.brd.cell 8
      have hq8 : q < wr.heap.size := hRF.brd.lt
      have HRF := Lib.hid hRF
      have HI := Lib.hid hits
      have HLN := Lib.hid (show b.log.length ≤ 1000000 by omega)
      have HMP := Lib.hid (fun W (hW : BoardAt 134 31 110 .u32 W γ 1 p b) => mprefix32 W γ 1 p b hW hfit (addM M32 sv from_) from_)
      have HRP := Lib.hid (fun W (hW : RefAt W γ 4 q ⟨variant, 32, cap, producers, start, ua, up.length, uc⟩ b) => r17Prefix W γ 4 q ⟨variant, 32, cap, producers, start, ua, up.length, uc⟩ b hW hfit (by first | exact .inl rfl | exact .inr rfl) (by exact hMW.symm) (addM M32 sv from_) from_ hpin)
      generalize prefixP M32 b (addM M32 sv from_) from_ = pn at HMP HRP
      clear hits hRF hRR hlg hval hfit hpin
      generalize addM M32 sv from_ = pv at *
      go_wp2_with fail
      go_region_held3 (fun w' => w'.cell? ⟨q, 8, none⟩ = some (.slice AL b.log.length cL)) (go_keep) (first
        | (go_at_call 36; refine (bLog32 _ γ 1 p b (HI.out.below (by (repeat (with_reducible first | exact Below.refl _ _ | refine Below.drew ?_ | refine below_drewN ?_ _ | refine Below.setCell ?_ ?_ _ | refine Below.alloc ?_ ?_ _)); all_goals first | omega | (dsimp only; omega) | (simp; omega))).g0 HLN.out).mono ?_; rintro e w16 ⟨v, rfl, hown, hb16⟩; obtain ⟨A6, c6, rfl, _⟩ := own_form hown; have hz16 : wr.heap.size ≤ w16.heap.size := Nat.le_trans (by simp) hb16.size; have hq16 : w16.cell? ⟨q, 8, none⟩ = some (.slice AL b.log.length cL) := (hb16.cell (p := ⟨q, 8, none⟩) hq8).trans hlg8; have HO := Lib.hid (And.intro hown (below_chain (a := wr) (by (repeat (with_reducible first | exact Below.refl _ _ | refine Below.drew ?_ | refine below_drewN ?_ _ | refine Below.setCell ?_ ?_ _ | refine Below.alloc ?_ ?_ _)); all_goals first | omega | (dsimp only; omega) | (simp; omega)) hb16)); clear hown hb16)
        | (go_at_call 35; refine (rsameAcc b.log HLN.out _ _ _ _ _ _ _ ((Reads.of_own HO.out.1).below (by (repeat (with_reducible first | exact Below.refl _ _ | refine Below.drew ?_ | refine below_drewN ?_ _ | refine Below.setCell ?_ ?_ _ | refine Below.alloc ?_ ?_ _)); all_goals first | omega | (dsimp only; omega) | (simp; omega))) ((Reads.of_own ((HRF.out.fr (Fr.of_below HO.out.2 NoId γ) (fun h => h)).log.1)).below (by (repeat (with_reducible first | exact Below.refl _ _ | refine Below.drew ?_ | refine below_drewN ?_ _ | refine Below.setCell ?_ ?_ _ | refine Below.alloc ?_ ?_ _)); all_goals first | omega | (dsimp only; omega) | (simp; omega)))).mono ?_; rintro e w17 ⟨rfl, hb17⟩; have hq17 : w17.cell? ⟨q, 8, none⟩ = some (.slice AL b.log.length cL) := (hb17.cell (p := ⟨q, 8, none⟩) (Nat.lt_of_lt_of_le hq8 hz16)).trans hq16; have HB17 := Lib.hid (HO.out.2.trans ((below_chain (a := w16) (by (repeat (with_reducible first | exact Below.refl _ _ | refine Below.drew ?_ | refine below_drewN ?_ _ | refine Below.setCell ?_ ?_ _ | refine Below.alloc ?_ ?_ _)); all_goals first | omega | (dsimp only; omega) | (simp; omega)) hb17).mono HO.out.2.size)); clear hb17)
        | (go_at_call 80; refine (HOV.out _).mono ?_; rintro e w' ⟨rfl, rfl⟩)
        | (go_at_call 72; refine (HMP.out _ ((HI.out.below HB17.out).below (by (repeat (with_reducible first | exact Below.refl _ _ | refine Below.drew ?_ | refine below_drewN ?_ _ | refine Below.setCell ?_ ?_ _ | refine Below.alloc ?_ ?_ _)); all_goals first | omega | (dsimp only; omega) | (simp; omega))).g0).mono ?_; rintro e w18 ⟨rfl, hb18⟩; have hb19 := HB17.out.trans ((below_chain (a := w17) (by (repeat (with_reducible first | exact Below.refl _ _ | refine Below.drew ?_ | refine below_drewN ?_ _ | refine Below.setCell ?_ ?_ _ | refine Below.alloc ?_ ?_ _)); all_goals first | omega | (dsimp only; omega) | (simp; omega)) hb18).mono HB17.out.size); have hq18 : w18.cell? ⟨q, 8, none⟩ = some (.slice AL b.log.length cL) := (hb19.cell (p := ⟨q, 8, none⟩) hq8).trans hlg8; have HB18 := Lib.hid hb19; clear hb18 hb19)
        | (go_at_call 85; refine (HRP.out _ ((HI.out.below HB18.out).below (by (repeat (with_reducible first | exact Below.refl _ _ | refine Below.drew ?_ | refine below_drewN ?_ _ | refine Below.setCell ?_ ?_ _ | refine Below.alloc ?_ ?_ _)); all_goals first | omega | (dsimp only; omega) | (simp; omega))).g1).mono ?_; rintro e w' ⟨rfl, n19, rfl⟩))
      go_wp2_with fail
      go_ret
      exact ⟨rfl, below_new (HI.out.bel.trans ((by repeat (with_reducible first | exact HB18.out | refine Below.drew ?_ | refine below_drewN ?_ _) : Below wr.heap.size wr _).mono HI.out.bel.size))⟩
set_option maxRecDepth 100000 in
theorem played17_64 (c : Cf) (up : List (List Int)) (hun : c.un = up.length) (hok : CfOk c up) (hll6 : ∀ l ∈ up, l.length ≤ 1000000) (hst : 0 ≤ c.start ∧ c.start ≤ 18446744073709551615) (hwid : c.width = 64) (ds : List (List Int)) (hd6 : ∀ d ∈ ds, d.length = [IntKind.i64, IntKind.i64].length ∧ ∀ (j : Nat) (k : IntKind) (x : Int), [IntKind.i64, IntKind.i64][j]? = some k → d[j]? = some x → (Lit.int k x).wf = true) (hdl : ds.length ≤ 60) (A : Option Addr) (xc : Nat) (from_ : Int) (w0 : World)
    (hU : UpAt w0 (fun b => b < w0.heap.size) c.ua up) (hA : DosAt w0 (fun b => b < w0.heap.size) [.i64, .i64] A ds) :
    Calls Tryz.prog 23 #[.agg c.vs.toArray, .slice A ds.length xc, .int .i64 from_] w0 fun e w' => e = .returned (.bool true) ∧ Below w0.heap.size w0 w' := by
  obtain ⟨variant, width, cap, producers, start, ua, un, uc⟩ := c
  unfold Cf.vs at *
  dsimp only at *
  subst hwid
  have hvar := hok.variant
  have hcap := hok.cap
  have HOF := Lib.hid (fun W (hW : Below w0.heap.size w0 W) => layof (fun b => b < w0.heap.size) ⟨variant, 64, cap, producers, start, ua, un, uc⟩ up hun hok hll6 W (fun b hb => Nat.lt_of_lt_of_le hb hW.size) (hU.below hW (fun b hb => hb)))
  have HNW := Lib.hid (fun (Bk : Nat → Prop) ua uc W hB hU => bnew64 Bk ⟨variant, 64, cap, producers, start, ua, un, uc⟩ up hun (hok.ua ua uc) rfl hst hll6 W hB hU)
  have HFT := Lib.hid (fun ua uc => newBS_fit ⟨variant, 64, cap, producers, start, ua, un, uc⟩ (hok.ua ua uc) hun)
  have HRN := Lib.hid (fun W => rnew12 ⟨variant, 64, cap, producers, start, ua, un, uc⟩ hok hun hst W)
  have HVC := Lib.hid (And.intro hvar hcap)
  have HST := Lib.hid (fun W => rstartI ⟨variant, 64, cap, producers, start, ua, un, uc⟩ (by first | exact .inl rfl | exact .inr rfl) hst W)
  unfold Cf.vs at HOF HRN HST
  unfold Lay.vs at HNW
  dsimp only at HOF HRN HNW HFT HVC HST
  subst hun
  obtain ⟨d, hd⟩ : ∃ d : Bool, ∀ ua uc, (newBS (mkLay ⟨variant, 64, cap, producers, start, ua, up.length, uc⟩)).hasM = d := ⟨decide (mkKind variant ≠ 0), fun ua uc => made_marks _⟩
  have hdd : (d != d) = false := by cases d <;> rfl
  have HAX := Lib.hid (And.intro hA hd6)
  have hcin : InM M64 (cutM (MW 64) start) := cutM_in64 _
  generalize cutM (MW 64) start = sv at *
  have hMW : MW 64 = M64 := MW_64
  have HPL := Lib.hid (fun n W => rplus 64 sv n (by first | exact .inl rfl | exact .inr rfl) (inM_u64_64 hcin) W)
  rw [hMW] at HPL
  have hpin : InM M64 (addM M64 sv from_) := addM_in64 _ _
  have HPU := Lib.hid (inM_u64_64 hpin)
  have HOV := Lib.hid (fun W => of64 (addM M64 sv from_) HPU.out W)
  rw [cut_id64 hpin] at HOV
  clear hU hll6 hst hok hvar hcap hA hd6
  go_enter Tryz.func23, Tryz.ntmps23
  go_wp2_with (first
    | (go_at_call 12; have hW1 := ((Below.refl w0.heap.size w0).alloc (Nat.le_refl _) (Obj.cells #[.int .i64 variant, .int .i64 64, .int .i64 cap, .int .i64 producers, .int .u64 start, .slice ua up.length uc] 25)); have hq := HOF.out _ hW1; refine hq.mono ?_; clear hq; rintro e w3 ⟨A3, c3, rfl, hcl3, hU3, hb3⟩; unfold Lay.vs; obtain ⟨hc3, hf3⟩ := bcell hb3; have HU3 := Lib.hid hU3; have HB3 := Lib.hid hb3; have hz3 : w0.heap.size < w3.heap.size := Nat.lt_of_lt_of_le (by simp) hb3.size; have hy3 : w0.heap.size < w3.heap.size + 1 := Nat.lt_succ_of_lt hz3; have HW3 := Lib.hid hb3; clear hU3 hb3 hcl3 hW1))
  go_region_held3 (fun w' => w'.cell? ⟨w0.heap.size, 0, none⟩ = some (.int .i64 variant) ∧ w'.cell? ⟨w0.heap.size, 1, none⟩ = some (.int .i64 64) ∧ w'.cell? ⟨w0.heap.size, 2, none⟩ = some (.int .i64 cap) ∧ w'.cell? ⟨w0.heap.size, 3, none⟩ = some (.int .i64 producers) ∧ w'.cell? ⟨w0.heap.size, 4, none⟩ = some (.int .u64 start) ∧ w'.cell? ⟨w0.heap.size, 5, none⟩ = some (.slice ua up.length uc)
      ∧ w'.cell? ⟨w3.heap.size, 0, none⟩ = some (.int .i64 (mkLay ⟨variant, 64, cap, producers, start, A3, up.length, c3⟩).c.variant) ∧ w'.cell? ⟨w3.heap.size, 1, none⟩ = some (.int .i64 (mkLay ⟨variant, 64, cap, producers, start, A3, up.length, c3⟩).c.width) ∧ w'.cell? ⟨w3.heap.size, 2, none⟩ = some (.int .i64 (mkLay ⟨variant, 64, cap, producers, start, A3, up.length, c3⟩).c.cap) ∧ w'.cell? ⟨w3.heap.size, 3, none⟩ = some (.int .i64 (mkLay ⟨variant, 64, cap, producers, start, A3, up.length, c3⟩).c.producers) ∧ w'.cell? ⟨w3.heap.size, 4, none⟩ = some (.int .u64 (mkLay ⟨variant, 64, cap, producers, start, A3, up.length, c3⟩).c.start) ∧ w'.cell? ⟨w3.heap.size, 5, none⟩ = some (.slice (mkLay ⟨variant, 64, cap, producers, start, A3, up.length, c3⟩).c.ua (mkLay ⟨variant, 64, cap, producers, start, A3, up.length, c3⟩).c.un (mkLay ⟨variant, 64, cap, producers, start, A3, up.length, c3⟩).c.uc) ∧ w'.cell? ⟨w3.heap.size, 6, none⟩ = some (.int .i64 (mkLay ⟨variant, 64, cap, producers, start, A3, up.length, c3⟩).cursor) ∧ w'.cell? ⟨w3.heap.size, 7, none⟩ = some (.int .i64 (mkLay ⟨variant, 64, cap, producers, start, A3, up.length, c3⟩).claim) ∧ w'.cell? ⟨w3.heap.size, 8, none⟩ = some (.int .i64 (mkLay ⟨variant, 64, cap, producers, start, A3, up.length, c3⟩).ticket) ∧ w'.cell? ⟨w3.heap.size, 9, none⟩ = some (.int .i64 (mkLay ⟨variant, 64, cap, producers, start, A3, up.length, c3⟩).serving) ∧ w'.cell? ⟨w3.heap.size, 10, none⟩ = some (.int .i64 (mkLay ⟨variant, 64, cap, producers, start, A3, up.length, c3⟩).next) ∧ w'.cell? ⟨w3.heap.size, 11, none⟩ = some (.int .i64 (mkLay ⟨variant, 64, cap, producers, start, A3, up.length, c3⟩).marks) ∧ w'.cell? ⟨w3.heap.size, 12, none⟩ = some (.int .i64 (mkLay ⟨variant, 64, cap, producers, start, A3, up.length, c3⟩).slots) ∧ w'.cell? ⟨w3.heap.size, 13, none⟩ = some (.int .i64 (mkLay ⟨variant, 64, cap, producers, start, A3, up.length, c3⟩).cells)) (go_keep)
    (first | (go_at_call 13; refine (HNW.out _ A3 c3 _ (by intro b hb; have := hb.2; simp; omega) (HU3.out.below (B := w3.heap.size) (by (repeat (with_reducible first | exact Below.refl _ _ | refine Below.drew ?_ | refine below_drewN ?_ _ | refine Below.setCell ?_ ?_ _ | refine Below.alloc ?_ ?_ _)); all_goals first | omega | (dsimp only; omega) | (simp; omega)) (fun b hb => hb.2))).mono ?_; intro e w4 hN; obtain ⟨p, γ4, rfl, hb4, hp4, hB4, hO4, hl4⟩ := new_old 110 (w0 := (w0.alloc (Obj.cells #[.int .i64 variant, .int .i64 64, .int .i64 cap, .int .i64 producers, .int .u64 start, .slice ua up.length uc] 25))) (by (repeat (with_reducible first | exact HW3.out | refine Below.drew ?_ | refine below_drewN ?_ _ | refine Below.alloc ?_ ?_ _)); all_goals first | exact HW3.out.size | (have := HW3.out.size; simp at this; simp; omega)) hN; obtain ⟨hc4, hf4⟩ := bcell hb4; have hz4 : w3.heap.size < w4.heap.size := Nat.lt_of_lt_of_le (by simp) hb4.size; have hy4 : w0.heap.size < w4.heap.size := Nat.lt_trans hz3 hz4; have HB4 := Lib.hid hb4; have HN4 := Lib.hid (And.intro hB4 (And.intro hO4 hp4)); clear hN hb4 hp4 hB4 hO4 hl4) | (go_at_call 14; refine (HRN.out _).mono ?_; intro e w5 hN; obtain ⟨q, rfl, hb5, _, hRR⟩ := refNew_at (c1 := ⟨variant, 64, cap, producers, start, A3, up.length, c3⟩) HVC.out.1 HVC.out.2 rfl hN; obtain ⟨hc5, hf5⟩ := bcell hb5; have hz5 : w4.heap.size ≤ w5.heap.size := Nat.le_trans (by simp) hb5.size; have hp5 := pp5 HN4.out.2.1 HN4.out.1 (by (repeat (with_reducible first | exact Below.refl _ _ | refine Below.drew ?_ | refine below_drewN ?_ _ | refine Below.setCell ?_ ?_ _ | refine Below.alloc ?_ ?_ _)); all_goals first | omega | (dsimp only; omega) | (simp; omega)) hRR; obtain ⟨γ5, hq5⟩ := hp5; have HP5 := Lib.hid (its_pair hq5.1 hq5.2.1 hq5.2.2); clear hN hb5 hRR hq5))
  have hj11 : (Tryz.prog.info? 75).map (·.size) = some 11 := by kernel_rfl
  go_wp2_with (first
    | (refine wpList_store_made2 (by rfl) 75 (.tmp 14) (.tmp 49) (by rfl) _ _ _ _ (frsCs .u64 [] [{ val := addM M64 sv from_ }] []) (by rfl) (by rfl) (by rfl) (by simp) (by rfl) (by exact hj11) (by rfl) (by kernel_rfl) ?_)
    | (go_at_call 49; refine (HOV.out _).mono ?_; rintro e w' ⟨rfl, rfl⟩)
    | (go_at_call 79; refine (HPL.out _ _).mono ?_; rintro e w' ⟨rfl, rfl⟩)
    | (go_at_call 78; refine (HST.out _).mono ?_; rintro e w7 ⟨rfl, hb7⟩; have hi7 := (HI6.out.below (by (repeat (with_reducible first | exact Below.refl _ _ | refine Below.drew ?_ | refine below_drewN ?_ _ | refine Below.setCell ?_ ?_ _ | refine Below.alloc ?_ ?_ _)); all_goals first | omega | (dsimp only; omega) | (simp; omega))).below hb7; obtain ⟨v0, v1, v2, v3, v4, v5⟩ := blk_cells6 ((Blk.new w0 25 _).below hi7.bel (by simp)); have hs7 := its_four (tF := 85) (tG := 75) hi7 (frsCs .u64 [] [{ val := addM M64 sv from_ }] []) (frsCs .u64 [] [{ val := addM M64 sv from_ }] []); obtain ⟨γ7, hS7⟩ := hs7; have HS := Lib.hid hS7; clear hb7 hi7 hS7)
    | (go_at_call 77; refine (r17Has _ γ5 4 q _ _ (HI6.out.below (by (repeat (with_reducible first | exact Below.refl _ _ | refine Below.drew ?_ | refine below_drewN ?_ _ | refine Below.setCell ?_ ?_ _ | refine Below.alloc ?_ ?_ _)); all_goals first | omega | (dsimp only; omega) | (simp; omega))).g1).mono ?_; rintro e w' ⟨he, hw⟩; rw [hd] at he; subst he hw)
    | (go_at_call 86; refine (mhas64 _ γ5 1 p _ (HP5.out.below (by (repeat (with_reducible first | exact Below.refl _ _ | refine Below.drew ?_ | refine below_drewN ?_ _ | refine Below.setCell ?_ ?_ _ | refine Below.alloc ?_ ?_ _)); all_goals first | omega | (dsimp only; omega) | (simp; omega))).g0).mono ?_; rintro e w6 ⟨he, hb6⟩; rw [hd] at he; subst he; have hi6 := (HP5.out.below (by (repeat (with_reducible first | exact Below.refl _ _ | refine Below.drew ?_ | refine below_drewN ?_ _ | refine Below.setCell ?_ ?_ _ | refine Below.alloc ?_ ?_ _)); all_goals first | omega | (dsimp only; omega) | (simp; omega))).below hb6; obtain ⟨u0, u1, u2, u3, u4, u5⟩ := blk_cells6 ((Blk.new w0 25 _).below hi6.bel (by simp)); have HI6 := Lib.hid hi6; clear hb6 hi6))
  try clear HOF HNW HRN HVC HST hd hdd hj11 hc3 hf3 hz3 hy3 hc4 hf4 hz4 hy4 hc5 hf5 hz5 HP5 HN4 HB4 HB3 HU3 HW3 HI6 u0 u1 u2 u3 u4 u5 v0 v1 v2 v3 v4 v5
  go_loopw [15] (fun i wr => ∃ (k : Nat) (f : FrS) (γ : Nat → Nat) (b : BS), i = .int .i64 k ∧ k ≤ ds.length ∧ Its (w0.alloc (Obj.cells #[.int .i64 variant, .int .i64 64, .int .i64 cap, .int .i64 producers, .int .u64 start, .slice ua up.length uc] 25)) (fun _ => 0) NoId [itB 97 22 110 .u64 1 p b, itR 4 q ⟨variant, 64, cap, producers, start, ua, up.length, uc⟩ b, itK 2 w7.heap.size 85 (frsCs .u64 [] [f] []), itK 5 (w7.heap.size + 1) 75 (frsCs .u64 [] [f] [])] wr γ ∧ b.Fit M64 ∧ b.log.length ≤ 9 * k ∧ InM M64 f.val) (fun i _ => ds.length - (intOf i).toNat)
  case atStart => exact ⟨0, { val := addM M64 sv from_ }, _, _, rfl, by omega, HS.out, HFT.out A3 c3, by show (0 : Nat) ≤ _; omega, hpin⟩
  case round =>
    obtain ⟨k, f, γ, b, rfl, hk, hits, hfit, hlg, hval⟩ := hrel
    have hbw : Below w0.heap.size w0 wr := below_new hits.bel
    by_cases hlt : k < ds.length
    · have hkx : (k : Int) < ds.length := by omega
      have hgx := List.getElem?_eq_getElem hlt
      have hxb := HAX.out.2 _ (List.getElem_mem hlt)
      generalize ds[k] = dd at hgx hxb
      obtain ⟨hd2, ab, ao, rfl, hab, hac⟩ := HAX.out.1 k dd hgx
      match dd, hd2 with
      | [at_, nn], _ =>
      have hw0 := hxb.2 0 .i64 at_ rfl rfl
      have hw1 := hxb.2 1 .i64 nn rfl rfl
      have ha0 : wr.cell? ⟨ab, ao + k * 2, none⟩ = some (.int .i64 at_) := (hbw.cell (p := ⟨ab, _, none⟩) hab).trans (hac 0 .i64 at_ rfl rfl)
      have ha1 : wr.cell? ⟨ab, ao + k * 2 + 1, none⟩ = some (.int .i64 nn) := (hbw.cell (p := ⟨ab, _, none⟩) hab).trans (hac 1 .i64 nn rfl rfl)
      have hcw : wr.cell? ⟨w0.heap.size, 1, none⟩ = some (.int .i64 64) := (hits.bel.cell (p := ⟨w0.heap.size, 1, none⟩) (by simp)).trans ((Blk.new w0 25 _).cell 1)
      have hnb := bounds_i64 hw1
      clear hac hgx hxb hw0 hw1
      by_cases hnn : 0 < nn
      · have hm0 := Int.emod_nonneg nn (b := 9) (by decide)
        have hm1 := Int.emod_lt_of_pos nn (b := 9) (by decide)
        have htm : Int.tmod nn 9 = nn % 9 := Int.tmod_eq_emod_of_nonneg (by omega)
        have hwm : wrap64 (nn % 9) = nn % 9 := wrap64_id (by omega)
        have hwm2 : IntKind.i64.wrap (nn % 9) = nn % 9 := by simp [IntKind.wrap, IntKind.bits, IntKind.signed]; omega
        have HPB := Lib.hid (fun W (hW : Below wr.heap.size wr W) => published17_64 W γ p q ⟨variant, 64, cap, producers, start, ua, up.length, uc⟩ b (hits.below hW).g0 (hits.below hW).g1 hfit (by omega) (by first | exact .inl rfl | exact .inr rfl) (by exact hMW.symm) (addM M64 sv at_) (nn % 9) (addM_in64 _ _) ⟨hm0, by omega⟩)
        have HI := Lib.hid hits
        have HLG := Lib.hid (And.intro hlg hval)
        clear hits hlg hval hfit
        go_wp2_with fail
        go_region_with (first
          | (go_at_call 79; refine (HPL.out _ _).mono ?_; rintro e w' ⟨rfl, rfl⟩)
          | (go_at_call 87
             refine (HPB.out _ (by (repeat (with_reducible first | exact Below.refl _ _ | refine Below.drew ?_ | refine below_drewN ?_ _ | refine Below.setCell ?_ ?_ _ | refine Below.alloc ?_ ?_ _)); all_goals first | omega | (dsimp only; omega) | (simp; omega))).mono ?_
             rintro e w8 ⟨rfl, γ8, b8, hB8, hR8, hfr8, hf8, hl8⟩
             have hi8 := (HI.out.below (by (repeat (with_reducible first | exact Below.refl _ _ | refine Below.drew ?_ | refine below_drewN ?_ _ | refine Below.setCell ?_ ?_ _ | refine Below.alloc ?_ ?_ _)); all_goals first | omega | (dsimp only; omega) | (simp; omega))).step2 0 1 _ _ (itB 97 22 110 .u64 1 p b8) (itR 4 q ⟨variant, 64, cap, producers, start, ua, up.length, uc⟩ b8) (by decide) rfl rfl rfl rfl hfr8 hB8 hR8
             have HI8 := Lib.hid (And.intro hi8 (And.intro hf8 hl8))
             clear hB8 hR8 hfr8 hf8 hl8 hi8))
        all_goals go_wp2_with fail
        all_goals go_round
        any_goals (case rel => exact ⟨k + 1, f, γ8, b8, by go_num, by omega, HI8.out.1.below (by (repeat (with_reducible first | exact Below.refl _ _ | refine Below.drew ?_ | refine below_drewN ?_ _ | refine Below.setCell ?_ ?_ _ | refine Below.alloc ?_ ?_ _)); all_goals first | omega | (dsimp only; omega) | (simp; omega)), HI8.out.2.1, by have := HI8.out.2.2; have := HLG.out.1; omega, HLG.out.2⟩)
        all_goals (simp only [intOf]; omega)
      · have hE := mseek64 (bfI 85 1 2 p w7.heap.size (by decide)) wr γ wr γ b f (bfI_at hits.g0 hits.g2) hfit (by omega) 0 hval
        have hR := fun w3 γ3 b3 f3 (h3 : Its (w0.alloc (Obj.cells #[.int .i64 variant, .int .i64 64, .int .i64 cap, .int .i64 producers, .int .u64 start, .slice ua up.length uc] 25)) (fun _ => 0) NoId [itB 97 22 110 .u64 1 p b3, itR 4 q ⟨variant, 64, cap, producers, start, ua, up.length, uc⟩ b, itK 2 w7.heap.size 85 (frsCs .u64 [] [f3] []), itK 5 (w7.heap.size + 1) 75 (frsCs .u64 [] [f] [])] w3 γ3) => r17Seek w3 γ3 4 q ⟨variant, 64, cap, producers, start, ua, up.length, uc⟩ b h3.g1 hfit (by omega) (by first | exact .inl rfl | exact .inr rfl) (by exact hMW.symm) 0 f hval
        have hS := seekP_step hfit 0 f hval
        obtain ⟨op, n, phase, pc, i, j, fr_, min, val, own, da, dn, dc⟩ := f
        dsimp only at hval
        generalize hr : seekP M64 b 0 _ = r at hE hR hS
        obtain ⟨d', b2, op2, n2, ph2, pc2, i2, j2, fr2, mi2, va2, ow2, da2, dn2, dc2⟩ := r
        dsimp only at hE hR hS
        obtain ⟨hS1, hS2, hS3, hS4⟩ := hS
        cases hS3
        unfold FrS.vs at hR
        dsimp only at hR
        have HE := Lib.hid hE
        have HR := Lib.hid hR
        have HSS := Lib.hid (And.intro hS1 (And.intro (show b2.log.length ≤ 9 * (k + 1) by omega) hS4))
        have HI := Lib.hid hits
        have hq1 : va2 % 18446744073709551616 = va2 := by have := inM_u64_64 hS4; omega
        have hq2 : IntKind.u64.wrap va2 = va2 := by have := inM_u64_64 hS4; simp [IntKind.wrap, IntKind.bits, IntKind.signed]; omega
        have hdd' : (d' != d') = false := by cases d' <;> rfl
        have HMA := Lib.hid (fun W γ' (hW : BoardAt 97 22 110 .u64 W γ' 1 p b2) => mmarked64 W γ' 1 p b2 hW hS1 va2 hS4)
        have HMR := Lib.hid (fun W γ' (hW : RefAt W γ' 4 q ⟨variant, 64, cap, producers, start, ua, up.length, uc⟩ b2) => r17Marked W γ' 4 q ⟨variant, 64, cap, producers, start, ua, up.length, uc⟩ b2 hW hS1 va2 (inM_u64_64 hS4))
        generalize b2.marked va2 = mk at HMA HMR
        have hmm : (mk != mk) = false := by cases mk <;> rfl
        clear hE hR hr hS1 hS2 hits hfit hlg hval hS4
        go_wp2_with (first
          | (go_at_call 88
             refine HE.out.mono ?_
             intro e w10 hq
             obtain ⟨rfl, γ10, h10⟩ := HI.out.bf 0 2 (by decide) rfl rfl hq
             obtain ⟨y0, y1, y2, y3, y4, y5, y6, y7, y8, y9, y10⟩ := blk_cells11 h10.g3.1
             have HI10 := Lib.hid h10
             clear hq h10)
          | (go_at_call 83
             refine (HR.out _ _ _ _ HI10.out).mono ?_
             intro e w11 hq
             obtain ⟨rfl, γ11, h11⟩ := HI10.out.rmut 1 rfl hq
             obtain ⟨x0, x1, x2, x3, x4, x5, x6, x7, x8, x9, x10⟩ := blk_cells11 h11.g2.1
             obtain ⟨y0, y1, y2, y3, y4, y5, y6, y7, y8, y9, y10⟩ := blk_cells11 h11.g3.1
             have hz3 := h11.g3.1.frozen
             have hl3 : w7.heap.size + 1 < w11.heap.size := h11.g3.1.lt
             have hl2 : w7.heap.size < w11.heap.size := h11.g2.1.lt
             have HI11 := Lib.hid h11
             clear hq h11))
        have hp11 := HI11.out.put11 3 5 (w7.heap.size + 1) 75 _ (by rfl) rfl (.int .i64 op) (.int .i64 n) (.int .i64 phase) (.int .i64 pc) (.int .i64 i) (.int .i64 j) (.int .u64 fr_) (.int .u64 min) (.int .u64 va2) (.int .u64 own) (.slice da dn dc)
        have hpa := hp11.alloc (Obj.cells #[.int .i64 op, .int .i64 n, .int .i64 phase, .int .i64 pc, .int .i64 i, .int .i64 j, .int .u64 fr_, .int .u64 min, .int .u64 va2, .int .u64 own, .slice da dn dc] 75)
        obtain ⟨r0, r1, r2, r3, r4, r5, r6, r7, r8, r9, r10⟩ := blk_cells11 hpa.g3.1
        obtain ⟨s0, s1, s2, s3, s4, s5, s6, s7, s8, s9, s10⟩ := blk_cells11 hpa.g2.1
        have HP := Lib.hid hpa
        clear hp11 hpa
        go_region_held3 (fun w' => w'.cell? ⟨w7.heap.size, 8, none⟩ = some (.int .u64 va2) ∧ w'.cell? ⟨w7.heap.size + 1, 8, none⟩ = some (.int .u64 va2)) (go_keep) (first
          | (go_at_call 89; refine (HMA.out _ _ (HP.out.below (by (repeat (with_reducible first | exact Below.refl _ _ | refine Below.drew ?_ | refine below_drewN ?_ _ | refine Below.setCell ?_ ?_ _ | refine Below.alloc ?_ ?_ _)); all_goals first | omega | (dsimp only; omega) | (simp; omega))).g0).mono ?_; rintro e w12 ⟨rfl, hb12⟩; have h12 := (HP.out.below (by (repeat (with_reducible first | exact Below.refl _ _ | refine Below.drew ?_ | refine below_drewN ?_ _ | refine Below.setCell ?_ ?_ _ | refine Below.alloc ?_ ?_ _)); all_goals first | omega | (dsimp only; omega) | (simp; omega))).below hb12; have hq12 : w12.cell? ⟨w7.heap.size, 8, none⟩ = some (.int .u64 va2) := h12.g2.1.cell 8; have hr12 : w12.cell? ⟨w7.heap.size + 1, 8, none⟩ = some (.int .u64 va2) := h12.g3.1.cell 8; have HI12 := Lib.hid h12; clear hb12 h12)
          | (go_at_call 84; refine (HMR.out _ _ (HI12.out.below (by (repeat (with_reducible first | exact Below.refl _ _ | refine Below.drew ?_ | refine below_drewN ?_ _ | refine Below.setCell ?_ ?_ _ | refine Below.alloc ?_ ?_ _)); all_goals first | omega | (dsimp only; omega) | (simp; omega))).g1).mono ?_; rintro e w' ⟨rfl, n13, rfl⟩))
        go_wp2_with fail
        go_round
        case rel => exact ⟨k + 1, ⟨op, n, phase, pc, i, j, fr_, min, va2, own, da, dn, dc⟩, _, b2, by go_num, by omega, HI12.out.below (by (repeat (with_reducible first | exact Below.refl _ _ | refine Below.drew ?_ | refine below_drewN ?_ _ | refine Below.setCell ?_ ?_ _ | refine Below.alloc ?_ ?_ _)); all_goals first | omega | (dsimp only; omega) | (simp; omega)), HSS.out.1, HSS.out.2.1, HSS.out.2.2⟩
        case measure => simp only [intOf]; omega
    · obtain rfl : k = ds.length := by omega
      have href := hits.g1
      obtain ⟨rc, cv, hv2, lv, hRF, hRR⟩ := href
      obtain ⟨AL, cL, rfl, _⟩ := own_form hRF.log.1
      have hlg8 : wr.cell? ⟨q, 8, none⟩ = some (.slice AL b.log.length cL) := hRF.brd.cell 8
      have hq8 : q < wr.heap.size := hRF.brd.lt
      have HRF := Lib.hid hRF
      have HI := Lib.hid hits
      have HLN := Lib.hid (show b.log.length ≤ 1000000 by omega)
      have HMP := Lib.hid (fun W (hW : BoardAt 97 22 110 .u64 W γ 1 p b) => mprefix64 W γ 1 p b hW hfit (addM M64 sv from_) from_)
      have HRP := Lib.hid (fun W (hW : RefAt W γ 4 q ⟨variant, 64, cap, producers, start, ua, up.length, uc⟩ b) => r17Prefix W γ 4 q ⟨variant, 64, cap, producers, start, ua, up.length, uc⟩ b hW hfit (by first | exact .inl rfl | exact .inr rfl) (by exact hMW.symm) (addM M64 sv from_) from_ hpin)
      generalize prefixP M64 b (addM M64 sv from_) from_ = pn at HMP HRP
      clear hits hRF hRR hlg hval hfit hpin
      generalize addM M64 sv from_ = pv at *
      go_wp2_with fail
      go_region_held3 (fun w' => w'.cell? ⟨q, 8, none⟩ = some (.slice AL b.log.length cL)) (go_keep) (first
        | (go_at_call 41; refine (bLog64 _ γ 1 p b (HI.out.below (by (repeat (with_reducible first | exact Below.refl _ _ | refine Below.drew ?_ | refine below_drewN ?_ _ | refine Below.setCell ?_ ?_ _ | refine Below.alloc ?_ ?_ _)); all_goals first | omega | (dsimp only; omega) | (simp; omega))).g0 HLN.out).mono ?_; rintro e w16 ⟨v, rfl, hown, hb16⟩; obtain ⟨A6, c6, rfl, _⟩ := own_form hown; have hz16 : wr.heap.size ≤ w16.heap.size := Nat.le_trans (by simp) hb16.size; have hq16 : w16.cell? ⟨q, 8, none⟩ = some (.slice AL b.log.length cL) := (hb16.cell (p := ⟨q, 8, none⟩) hq8).trans hlg8; have HO := Lib.hid (And.intro hown (below_chain (a := wr) (by (repeat (with_reducible first | exact Below.refl _ _ | refine Below.drew ?_ | refine below_drewN ?_ _ | refine Below.setCell ?_ ?_ _ | refine Below.alloc ?_ ?_ _)); all_goals first | omega | (dsimp only; omega) | (simp; omega)) hb16)); clear hown hb16)
        | (go_at_call 35; refine (rsameAcc b.log HLN.out _ _ _ _ _ _ _ ((Reads.of_own HO.out.1).below (by (repeat (with_reducible first | exact Below.refl _ _ | refine Below.drew ?_ | refine below_drewN ?_ _ | refine Below.setCell ?_ ?_ _ | refine Below.alloc ?_ ?_ _)); all_goals first | omega | (dsimp only; omega) | (simp; omega))) ((Reads.of_own ((HRF.out.fr (Fr.of_below HO.out.2 NoId γ) (fun h => h)).log.1)).below (by (repeat (with_reducible first | exact Below.refl _ _ | refine Below.drew ?_ | refine below_drewN ?_ _ | refine Below.setCell ?_ ?_ _ | refine Below.alloc ?_ ?_ _)); all_goals first | omega | (dsimp only; omega) | (simp; omega)))).mono ?_; rintro e w17 ⟨rfl, hb17⟩; have hq17 : w17.cell? ⟨q, 8, none⟩ = some (.slice AL b.log.length cL) := (hb17.cell (p := ⟨q, 8, none⟩) (Nat.lt_of_lt_of_le hq8 hz16)).trans hq16; have HB17 := Lib.hid (HO.out.2.trans ((below_chain (a := w16) (by (repeat (with_reducible first | exact Below.refl _ _ | refine Below.drew ?_ | refine below_drewN ?_ _ | refine Below.setCell ?_ ?_ _ | refine Below.alloc ?_ ?_ _)); all_goals first | omega | (dsimp only; omega) | (simp; omega)) hb17).mono HO.out.2.size)); clear hb17)
        | (go_at_call 49; refine (HOV.out _).mono ?_; rintro e w' ⟨rfl, rfl⟩)
        | (go_at_call 90; refine (HMP.out _ ((HI.out.below HB17.out).below (by (repeat (with_reducible first | exact Below.refl _ _ | refine Below.drew ?_ | refine below_drewN ?_ _ | refine Below.setCell ?_ ?_ _ | refine Below.alloc ?_ ?_ _)); all_goals first | omega | (dsimp only; omega) | (simp; omega))).g0).mono ?_; rintro e w18 ⟨rfl, hb18⟩; have hb19 := HB17.out.trans ((below_chain (a := w17) (by (repeat (with_reducible first | exact Below.refl _ _ | refine Below.drew ?_ | refine below_drewN ?_ _ | refine Below.setCell ?_ ?_ _ | refine Below.alloc ?_ ?_ _)); all_goals first | omega | (dsimp only; omega) | (simp; omega)) hb18).mono HB17.out.size); have hq18 : w18.cell? ⟨q, 8, none⟩ = some (.slice AL b.log.length cL) := (hb19.cell (p := ⟨q, 8, none⟩) hq8).trans hlg8; have HB18 := Lib.hid hb19; clear hb18 hb19)
        | (go_at_call 85; refine (HRP.out _ ((HI.out.below HB18.out).below (by (repeat (with_reducible first | exact Below.refl _ _ | refine Below.drew ?_ | refine below_drewN ?_ _ | refine Below.setCell ?_ ?_ _ | refine Below.alloc ?_ ?_ _)); all_goals first | omega | (dsimp only; omega) | (simp; omega))).g1).mono ?_; rintro e w' ⟨rfl, n19, rfl⟩))
      go_wp2_with fail
      go_ret
      exact ⟨rfl, below_new (HI.out.bel.trans ((by repeat (with_reducible first | exact HB18.out | refine Below.drew ?_ | refine below_drewN ?_ _) : Below wr.heap.size wr _).mono HI.out.bel.size))⟩
end Go.Proofs.YtmjpdojecdnkjaaGreat
