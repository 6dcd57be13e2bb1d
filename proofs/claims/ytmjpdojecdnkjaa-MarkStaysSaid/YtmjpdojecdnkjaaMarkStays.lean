/- sakialaw17.MarkStays returns true for every input, and changes nothing. -/
import Derived.Test.YtmjpdojecdnkjaaMarkS
import Derived.Test.YtmjpdojecdnkjaaTurnAlone
namespace Go.Proofs.Ytmjpdojecdnkjaa
open Go.RowKit
set_option linter.unusedVariables false
set_option linter.unusedSimpArgs false
set_option maxHeartbeats 4000000

theorem mk235 {v : Int} (h : v = 2 ∨ v = 3 ∨ v = 5) : mkKind v ≠ 0 := by rcases h with rfl | rfl | rfl <;> decide
theorem mask_bd {c : Int} (hc : Cap2 c) (x : Int) (hx : 0 ≤ x) : 1 ≤ 1 + x % (c - 1) ∧ 1 + x % (c - 1) < c := by
  have := hc.bd
  have h1 := Int.emod_nonneg x (b := c - 1) (by omega)
  have h2 := Int.emod_lt_of_pos x (b := c - 1) (by omega)
  omega
section
variable (w0 : World)
set_option maxRecDepth 100000 in
theorem markStays_any (c : Cf) (up : List (List Int)) (hun : c.un = up.length) (hU : UpAt w0 (fun b => b < w0.heap.size) c.ua up) (hlen : up.length ≤ maxLen) (hll : ∀ l ∈ up, l.length ≤ maxLen) (hst : 0 ≤ c.start ∧ c.start ≤ 18446744073709551615) (first : Int) (hfi : 0 ≤ first ∧ first < 256) (A : Option Addr) (xs : List Int) (xc : Nat) (hA : KAt .u8 w0 (fun b => b < w0.heap.size) A xs) (hx : ∀ x ∈ xs, 0 ≤ x ∧ x < 256) :
    Calls Try.prog 7 #[.agg c.vs.toArray, .int .u8 first, .slice A xs.length xc] w0 fun e w' => e = .returned (.bool true) ∧ Below w0.heap.size w0 w' := by
  have hfi0 := hfi.1
  have hfi1 := hfi.2
  have hfw : wrap64 first = first := wrap64_id (by omega)
  clear hfi
  have HV := Lib.hid live17
  have hlo := fun W (hW : Below w0.heap.size w0 W) => llongB _ up c.ua c.uc hlen hll W (hU.below hW (fun b hb => hb))
  by_cases hs : ShortUp up
  · have hsb : (!decide (ShortUp up)) = false := by simp [hs]
    simp only [hsb] at hlo
    have hll6 : ∀ l ∈ up, l.length ≤ 1000000 := fun l hl => by have := hs.2 l hl; omega
    have hlen6 : up.length ≤ 1000000 := by have := hs.1; omega
    have hri := fun W (hW : Below w0.heap.size w0 W) => rrightOf _ c up hun hlen6 hll6 W (fun b hb => Nat.lt_of_lt_of_le hb hW.size) (hU.below hW (fun b hb => hb))
    by_cases hc : confCode c up = 0
    · have hok := cfOk_of_code hc
      simp only [show (confCode c up == 0) = true by simp [hc]] at hri
      by_cases hwid : c.width = 64
      · obtain ⟨variant, width, cap, producers, start, ua, un, uc⟩ := c
        unfold Cf.vs at *
        dsimp only at *
        subst hwid
        have HLO := Lib.hid hlo
        have HRI := Lib.hid hri
        have hvar := hok.variant
        have hcap := hok.cap
        by_cases hv1 : variant = 1
        · subst hv1
          clear hlo hri hU hll hlen hll6 hlen6 hs hsb hst hc hok
          subst hun
          go_enter Try.func7, Try.ntmps7
          go_wp2_with (first | (go_at_call 23; refine (HLO.out _ (by (repeat (with_reducible first | exact Below.refl _ _ | refine Below.drew ?_ | refine below_drewN ?_ _ | refine Below.setCell ?_ ?_ _ | refine Below.alloc ?_ ?_ _)); all_goals first | omega | (dsimp only; omega) | (simp; omega))).mono ?_; rintro e w' ⟨rfl, rfl⟩) | (go_at_call 24; refine (HRI.out _ (by (repeat (with_reducible first | exact Below.refl _ _ | refine Below.drew ?_ | refine below_drewN ?_ _ | refine Below.setCell ?_ ?_ _ | refine Below.alloc ?_ ?_ _)); all_goals first | omega | (dsimp only; omega) | (simp; omega))).mono ?_; rintro e w2 ⟨rfl, hb2⟩; obtain ⟨hc2, hf2⟩ := bcell hb2; have hz2 := hb2.size; have HCF2 := Lib.hid ((Blk.new w0 51 _).below hb2 (by simp)); have HB2 := Lib.hid hb2; clear hb2) | (go_at_call 32; refine (HV.out _).mono ?_; rintro e w9 ⟨rfl, hb9⟩; have HB9 := Lib.hid hb9; clear hb9))
          go_ret
          exact ⟨rfl, below_new (HB2.out.trans (HB9.out.mono HB2.out.size))⟩
        · by_cases hv4 : variant = 4
          · subst hv4
            clear hlo hri hU hll hlen hll6 hlen6 hs hsb hst hc hok
            subst hun
            go_enter Try.func7, Try.ntmps7
            go_wp2_with (first | (go_at_call 23; refine (HLO.out _ (by (repeat (with_reducible first | exact Below.refl _ _ | refine Below.drew ?_ | refine below_drewN ?_ _ | refine Below.setCell ?_ ?_ _ | refine Below.alloc ?_ ?_ _)); all_goals first | omega | (dsimp only; omega) | (simp; omega))).mono ?_; rintro e w' ⟨rfl, rfl⟩) | (go_at_call 24; refine (HRI.out _ (by (repeat (with_reducible first | exact Below.refl _ _ | refine Below.drew ?_ | refine below_drewN ?_ _ | refine Below.setCell ?_ ?_ _ | refine Below.alloc ?_ ?_ _)); all_goals first | omega | (dsimp only; omega) | (simp; omega))).mono ?_; rintro e w2 ⟨rfl, hb2⟩; obtain ⟨hc2, hf2⟩ := bcell hb2; have hz2 := hb2.size; have HCF2 := Lib.hid ((Blk.new w0 51 _).below hb2 (by simp)); have HB2 := Lib.hid hb2; clear hb2) | (go_at_call 32; refine (HV.out _).mono ?_; rintro e w9 ⟨rfl, hb9⟩; have HB9 := Lib.hid hb9; clear hb9))
            go_ret
            exact ⟨rfl, below_new (HB2.out.trans (HB9.out.mono HB2.out.size))⟩
          · have hw1 : (variant == 1) = false := by simp [hv1]
            have hw4 : (variant == 4) = false := by simp [hv4]
            by_cases h100 : 100 < xs.length
            · have h100i : (100 : Int) < xs.length := by omega
              clear hlo hri hU hll hlen hll6 hlen6 hs hsb hst hc hok
              subst hun
              go_enter Try.func7, Try.ntmps7
              go_wp2_with (first | (go_at_call 23; refine (HLO.out _ (by (repeat (with_reducible first | exact Below.refl _ _ | refine Below.drew ?_ | refine below_drewN ?_ _ | refine Below.setCell ?_ ?_ _ | refine Below.alloc ?_ ?_ _)); all_goals first | omega | (dsimp only; omega) | (simp; omega))).mono ?_; rintro e w' ⟨rfl, rfl⟩) | (go_at_call 24; refine (HRI.out _ (by (repeat (with_reducible first | exact Below.refl _ _ | refine Below.drew ?_ | refine below_drewN ?_ _ | refine Below.setCell ?_ ?_ _ | refine Below.alloc ?_ ?_ _)); all_goals first | omega | (dsimp only; omega) | (simp; omega))).mono ?_; rintro e w2 ⟨rfl, hb2⟩; obtain ⟨hc2, hf2⟩ := bcell hb2; have hz2 := hb2.size; have HCF2 := Lib.hid ((Blk.new w0 51 _).below hb2 (by simp)); have HB2 := Lib.hid hb2; clear hb2) | (go_at_call 32; refine (HV.out _).mono ?_; rintro e w9 ⟨rfl, hb9⟩; have HB9 := Lib.hid hb9; clear hb9))
              go_ret
              exact ⟨rfl, below_new (HB2.out.trans (HB9.out.mono HB2.out.size))⟩
            · have h100i : decide ((100 : Int) < xs.length) = false := decide_eq_false (by omega)
              have h100j : (xs.length : Int) ≤ 100 := by omega
              have hv3 : variant = 2 ∨ variant = 3 ∨ variant = 5 := by have h1 := hvar.1; have h2 := hvar.2; clear hvar; dsimp only at h1 h2; omega
              have hm : ∀ A3 c3, (newBS (mkLay ⟨variant, 64, cap, producers, start, A3, up.length, c3⟩)).hasM = true := fun A3 c3 => (made_marks _).trans (decide_eq_true (mk235 hv3))
              have HOF := Lib.hid (fun W (hW : Below w0.heap.size w0 W) => layof (fun b => b < w0.heap.size) ⟨variant, 64, cap, producers, start, ua, un, uc⟩ up hun hok hll6 W (fun b hb => Nat.lt_of_lt_of_le hb hW.size) (hU.below hW (fun b hb => hb)))
              have HNW := Lib.hid (fun (Bk : Nat → Prop) ua uc W hB hU => bnew64 Bk ⟨variant, 64, cap, producers, start, ua, un, uc⟩ up hun (hok.ua ua uc) rfl hst hll6 W hB hU)
              have HFT := Lib.hid (fun ua uc => newBS_fit ⟨variant, 64, cap, producers, start, ua, un, uc⟩ (hok.ua ua uc) hun)
              unfold Cf.vs at HOF
              unfold Lay.vs at HNW
              have hst1 := hst.1
              have hst2 := hst.2
              subst hun
              have HX := Lib.hid hx
              have HA := Lib.hid hA
              have HCAP := Lib.hid hcap
              clear hlo hri hU hll hlen hll6 hlen6 hs hsb hst hc hok hx hA
              go_enter Try.func7, Try.ntmps7
              go_wp2_with (first | (go_at_call 23; refine (HLO.out _ (by (repeat (with_reducible first | exact Below.refl _ _ | refine Below.drew ?_ | refine below_drewN ?_ _ | refine Below.setCell ?_ ?_ _ | refine Below.alloc ?_ ?_ _)); all_goals first | omega | (dsimp only; omega) | (simp; omega))).mono ?_; rintro e w' ⟨rfl, rfl⟩) | (go_at_call 24; refine (HRI.out _ (by (repeat (with_reducible first | exact Below.refl _ _ | refine Below.drew ?_ | refine below_drewN ?_ _ | refine Below.setCell ?_ ?_ _ | refine Below.alloc ?_ ?_ _)); all_goals first | omega | (dsimp only; omega) | (simp; omega))).mono ?_; rintro e w2 ⟨rfl, hb2⟩; obtain ⟨hc2, hf2⟩ := bcell hb2; have hz2 := hb2.size; have HCF2 := Lib.hid ((Blk.new w0 51 _).below hb2 (by simp)); have HB2 := Lib.hid hb2; clear hb2) | (go_at_call 32; refine (HV.out _).mono ?_; rintro e w9 ⟨rfl, hb9⟩; have HB9 := Lib.hid hb9; clear hb9) | (go_at_call 25; have hW1 := (((Below.refl w0.heap.size w0).alloc (Nat.le_refl _) _).trans (HB2.out.mono (by simp))); have hq := HOF.out _ hW1; refine hq.mono ?_; clear hq; rintro e w3 ⟨A3, c3, rfl, hcl3, hU3, hb3⟩; unfold Lay.vs; obtain ⟨hc3, hf3⟩ := bcell hb3; have HCF3 := Lib.hid (HCF2.out.below hb3 HCF2.out.lt); have HU3 := Lib.hid hU3; have HB3 := Lib.hid hb3; have hz3 := hb3.size; have HW3 := Lib.hid (hW1.trans (hb3.mono hW1.size)); clear hU3 hb3 hcl3 hW1) | (go_at_call 26; refine (HNW.out _ A3 c3 _ (by intro b hb; have := hb.2; simp; omega) (HU3.out.below (B := w3.heap.size) (by (repeat (with_reducible first | exact Below.refl _ _ | refine Below.drew ?_ | refine below_drewN ?_ _ | refine Below.setCell ?_ ?_ _ | refine Below.alloc ?_ ?_ _)); all_goals first | omega | (dsimp only; omega) | (simp; omega)) (fun b hb => hb.2))).mono ?_; intro e w4 hN; obtain ⟨p, γ4, rfl, hb4, hp4, hB4, hO4, hl4⟩ := new_old 87 (w0 := w0) (HW3.out.alloc HW3.out.size _) hN; have hft : BS.Fit M64 _ := HFT.out A3 c3; have hcf4 := (HCF3.out.alloc _).below hb4 (HCF3.out.alloc _).lt; have hbw := BW.mk hO4 hB4 hft (Nat.le_refl 0) hcf4 (hl4 _ (HCF3.out.alloc _).lt); have q4 : w4.cell? ⟨w0.heap.size, 4, none⟩ = some (.int .u64 start) := hcf4.cell 4; have HBW := Lib.hid hbw; have HFI0 := Lib.hid (show (newBS (mkLay ⟨variant, 64, cap, producers, start, A3, up.length, c3⟩)).Fit M64 from hft); clear hN hb4 hp4 hB4 hO4 hl4 hft hcf4 hbw) | (go_at_call 33; refine (add64 _ _ _).mono ?_; rintro e w' ⟨rfl, rfl⟩) | (go_at_call 34; have hq := bw_publish64 HBW.out (by decide) (hm A3 c3) 0 (addM M64 start first) (addM_in64 _ _); refine hq.mono ?_; clear hq; rintro e w5 ⟨rfl, γ5, hbw5⟩; have HBW5 := Lib.hid hbw5; clear hbw5))
              have hcs := HBW5.out.cfg
              go_loopw [11] (fun i wr => ∃ (k : Nat) (γ : Nat → Nat) (b : BS), i = .int .i64 k ∧ k ≤ xs.length ∧ BW 101 22 87 .u64 M64 51 w0.heap.size #[.int .i64 variant, .int .i64 64, .int .i64 cap, .int .i64 producers, .int .u64 start, .slice ua up.length uc] w0 wr γ p b (k + 1) ∧ b.l.c.cap = cap ∧ b.hasM = true ∧ b.marked (addM M64 start first) = true) (fun i _ => xs.length - (intOf i).toNat)
              case atStart =>
                refine ⟨0, γ5, _, rfl, by omega, HBW5.out, ?_, ?_, ?_⟩
                · rw [HFI0.out.mlay_l (hm A3 c3)]; show (mkLay _).c.cap = cap; rw [mkLay_c]
                · exact HFI0.out.mlay_hasM (hm A3 c3) _ _
                · rw [HFI0.out.marked_mlay (hm A3 c3), if_pos rfl]; simp
              case round =>
                obtain ⟨k, γ, b, rfl, hk, hbw, hbc, hbm, hmk⟩ := hrel
                have hcf := hbw.cfg
                have r2 : wr.cell? ⟨w0.heap.size, 2, none⟩ = some (.int .i64 cap) := hcf.cell 2
                by_cases hlt : k < xs.length
                · have hkx : (k : Int) < xs.length := by omega
                  have hgx := List.getElem?_eq_getElem hlt
                  have hxb := HX.out _ (List.getElem_mem hlt)
                  generalize xs[k] = x at hgx hxb
                  obtain ⟨ab, ao, rfl, hab, hac⟩ := HA.out k x hgx
                  have hac2 : wr.cell? ⟨ab, ao + k, none⟩ = some (.int .u8 x) := (hbw.old.bel.cell (p := ⟨ab, ao + k, none⟩) hab).trans hac
                  have hfar := mask_bd HCAP.out x hxb.1
                  have hcb := HCAP.out.bd
                  generalize hfe : 1 + x % (cap - 1) = far at hfar
                  have HFAR := Lib.hid hfar
                  have HBW := Lib.hid hbw
                  have HB := Lib.hid (And.intro hbc (And.intro hbm hmk))
                  have HFE := Lib.hid hfe
                  have hkk : (k : Int) < 100 := by omega
                  clear hbw hbc hbm hmk hac hab hfar hcf hfe
                  have hnz : (cap - 1 == 0) = false := by simp; omega
                  have hnz2 : cap - 1 ≠ 0 := by omega
                  have hw1 : wrap64 (cap - 1) = cap - 1 := wrap64_id (by omega)
                  have hw2 : wrap64 (1 + x % (cap - 1)) = far := by rw [HFE.out]; exact wrap64_id (by have := HFAR.out; omega)
                  have HMP := Lib.hid (show (b.mlay 0 (addM M64 (addM M64 start first) far)).marked (addM M64 start first) = true by
                    rw [HBW.out.fit.marked_mlay HB.out.2.1, if_neg (by rw [HB.out.1]; exact fun e => slot_far HCAP.out (addM_in64 _ _) HFAR.out e.symm)]; exact HB.out.2.2)
                  have HMQ := Lib.hid (show (b.mlay 0 (addM M64 (addM M64 start first) far)).marked (addM M64 (addM M64 start first) far) = true by
                    rw [HBW.out.fit.marked_mlay HB.out.2.1, if_pos rfl]; simp)
                  go_wp2_with fail
                  go_quiet (fail)
                  go_wp2_with (first
                    | (go_at_call_of 35 (Value.int IntKind.u64 (addM M64 (addM M64 start first) far)); have hq := mmarked64 _ _ _ _ _ HBW7.out.brd HBW7.out.fit (addM M64 (addM M64 start first) far) (addM_in64 _ _); rw [HMQ.out] at hq; refine hq.mono ?_; clear hq; rintro e w8 ⟨rfl, hb8⟩; have HBW8 := Lib.hid (HBW7.out.below hb8); clear hb8)
                    | (go_at_call 35; have hq := mmarked64 _ _ _ _ _ HBW6.out.brd HBW6.out.fit (addM M64 start first) (addM_in64 _ _); rw [HMP.out] at hq; refine hq.mono ?_; clear hq; rintro e w7 ⟨rfl, hb7⟩; have HBW7 := Lib.hid (HBW6.out.below hb7); have s2 : w7.cell? ⟨w0.heap.size, 2, none⟩ = some (.int .i64 cap) := HBW7.out.cfg.cell 2; clear hb7)
                    | (go_at_call 33; refine (add64 _ _ _).mono ?_; rintro e w' ⟨rfl, rfl⟩)
                    | (go_at_call 34; refine (bw_publish64 (HBW.out.below (by (repeat (with_reducible first | exact Below.refl _ _ | refine Below.drew ?_ | refine below_drewN ?_ _ | refine Below.setCell ?_ ?_ _ | refine Below.alloc ?_ ?_ _)); all_goals first | omega | (dsimp only; omega) | (simp; omega))) (by omega) HB.out.2.1 0 (addM M64 (addM M64 start first) far) (addM_in64 _ _)).mono ?_; rintro e w6 ⟨rfl, γ6, hbw6⟩; have HBW6 := Lib.hid hbw6; clear hbw6))
                  go_round
                  case rel => exact ⟨k + 1, γ6, _, by go_num, by omega, HBW8.out, by rw [HBW.out.fit.mlay_l HB.out.2.1]; exact HB.out.1, HBW.out.fit.mlay_hasM HB.out.2.1 _ _, HMP.out⟩
                  case measure => simp only [intOf]; omega
                · have HBW := Lib.hid hbw
                  have HB := Lib.hid (And.intro hbc (And.intro hbm hmk))
                  have HMP := Lib.hid (show (b.mlay 0 (addM M64 (addM M64 start first) cap)).marked (addM M64 start first) = false by
                    rw [hbw.fit.marked_mlay hbm, if_pos (by rw [hbc]; exact (slot_cap HCAP.out (addM_in64 _ _)).symm)]
                    exact decide_eq_false (by unfold BS.mround; rw [hbc]; exact round_cap HCAP.out (addM_in64 _ _)))
                  have HMQ := Lib.hid (show (b.mlay 0 (addM M64 (addM M64 start first) cap)).marked (addM M64 (addM M64 start first) cap) = true by
                    rw [hbw.fit.marked_mlay hbm, if_pos rfl]; simp)
                  clear hbw hbc hbm hmk hcf
                  go_wp2_with (first
                    | (go_at_call_of 35 (Value.int IntKind.u64 (addM M64 (addM M64 start first) cap)); have hq := mmarked64 _ _ _ _ _ HBW7.out.brd HBW7.out.fit (addM M64 (addM M64 start first) cap) (addM_in64 _ _); rw [HMQ.out] at hq; refine hq.mono ?_; clear hq; rintro e w8 ⟨rfl, hb8⟩; have HBW8 := Lib.hid (HBW7.out.below hb8); clear hb8)
                    | (go_at_call 35; have hq := mmarked64 _ _ _ _ _ HBW6.out.brd HBW6.out.fit (addM M64 start first) (addM_in64 _ _); rw [HMP.out] at hq; refine hq.mono ?_; clear hq; rintro e w7 ⟨rfl, hb7⟩; have HBW7 := Lib.hid (HBW6.out.below hb7); have s2 : w7.cell? ⟨w0.heap.size, 2, none⟩ = some (.int .i64 cap) := HBW7.out.cfg.cell 2; clear hb7)
                    | (go_at_call 33; refine (add64 _ _ _).mono ?_; rintro e w' ⟨rfl, rfl⟩)
                    | (go_at_call 34; have hq := bw_publish64 HBW.out (by omega) HB.out.2.1 0 (addM M64 (addM M64 start first) cap) (addM_in64 _ _); refine hq.mono ?_; clear hq; rintro e w6 ⟨rfl, γ6, hbw6⟩; have HBW6 := Lib.hid hbw6; clear hbw6)
                    | (go_at_call 32; refine (HV.out _).mono ?_; rintro e w9 ⟨rfl, hb9⟩; have HB9 := Lib.hid hb9; clear hb9))
                  go_ret
                  exact ⟨rfl, HBW8.out.old.bel.trans (HB9.out.mono HBW8.out.old.bel.size)⟩
      · have hwb : (c.width != 64) = true := by simp [hwid]
        obtain ⟨variant, width, cap, producers, start, ua, un, uc⟩ := c
        unfold Cf.vs at *
        dsimp only at *
        subst hun
        have HLO := Lib.hid hlo
        have HRI := Lib.hid hri
        clear hlo hri hU hll hlen hll6 hlen6 hs hsb hst hc hok hwid
        go_enter Try.func7, Try.ntmps7
        go_wp2_with (first | (go_at_call 23; refine (HLO.out _ (by (repeat (with_reducible first | exact Below.refl _ _ | refine Below.drew ?_ | refine below_drewN ?_ _ | refine Below.setCell ?_ ?_ _ | refine Below.alloc ?_ ?_ _)); all_goals first | omega | (dsimp only; omega) | (simp; omega))).mono ?_; rintro e w' ⟨rfl, rfl⟩) | (go_at_call 24; refine (HRI.out _ (by (repeat (with_reducible first | exact Below.refl _ _ | refine Below.drew ?_ | refine below_drewN ?_ _ | refine Below.setCell ?_ ?_ _ | refine Below.alloc ?_ ?_ _)); all_goals first | omega | (dsimp only; omega) | (simp; omega))).mono ?_; rintro e w2 ⟨rfl, hb2⟩; obtain ⟨hc2, hf2⟩ := bcell hb2; have hz2 := hb2.size; have HCF2 := Lib.hid ((Blk.new w0 51 _).below hb2 (by simp)); have HB2 := Lib.hid hb2; clear hb2) | (go_at_call 32; refine (HV.out _).mono ?_; rintro e w9 ⟨rfl, hb9⟩; have HB9 := Lib.hid hb9; clear hb9))
        go_ret
        exact ⟨rfl, below_new (HB2.out.trans (HB9.out.mono HB2.out.size))⟩
    · simp only [show (confCode c up == 0) = false by simp [hc]] at hri
      obtain ⟨variant, width, cap, producers, start, ua, un, uc⟩ := c
      unfold Cf.vs at *
      dsimp only at *
      subst hun
      have HLO := Lib.hid hlo
      have HRI := Lib.hid hri
      clear hlo hri hU hll hlen hll6 hlen6 hs hsb hst hc
      go_enter Try.func7, Try.ntmps7
      go_wp2_with (first | (go_at_call 23; refine (HLO.out _ (by (repeat (with_reducible first | exact Below.refl _ _ | refine Below.drew ?_ | refine below_drewN ?_ _ | refine Below.setCell ?_ ?_ _ | refine Below.alloc ?_ ?_ _)); all_goals first | omega | (dsimp only; omega) | (simp; omega))).mono ?_; rintro e w' ⟨rfl, rfl⟩) | (go_at_call 24; refine (HRI.out _ (by (repeat (with_reducible first | exact Below.refl _ _ | refine Below.drew ?_ | refine below_drewN ?_ _ | refine Below.setCell ?_ ?_ _ | refine Below.alloc ?_ ?_ _)); all_goals first | omega | (dsimp only; omega) | (simp; omega))).mono ?_; rintro e w2 ⟨rfl, hb2⟩; obtain ⟨hc2, hf2⟩ := bcell hb2; have hz2 := hb2.size; have HCF2 := Lib.hid ((Blk.new w0 51 _).below hb2 (by simp)); have HB2 := Lib.hid hb2; clear hb2) | (go_at_call 32; refine (HV.out _).mono ?_; rintro e w9 ⟨rfl, hb9⟩; have HB9 := Lib.hid hb9; clear hb9))
      go_ret
      exact ⟨rfl, below_new (HB2.out.trans (HB9.out.mono HB2.out.size))⟩
  · simp only [show (!decide (ShortUp up)) = true by simp [hs]] at hlo
    obtain ⟨variant, width, cap, producers, start, ua, un, uc⟩ := c
    unfold Cf.vs at *
    dsimp only at *
    subst hun
    have HLO := Lib.hid hlo
    clear hlo hU hll hlen hs hst
    go_enter Try.func7, Try.ntmps7
    go_wp2_with (first | (go_at_call 23; refine (HLO.out _ (by (repeat (with_reducible first | exact Below.refl _ _ | refine Below.drew ?_ | refine below_drewN ?_ _ | refine Below.setCell ?_ ?_ _ | refine Below.alloc ?_ ?_ _)); all_goals first | omega | (dsimp only; omega) | (simp; omega))).mono ?_; rintro e w' ⟨rfl, rfl⟩) | (go_at_call 32; refine (HV.out _).mono ?_; rintro e w9 ⟨rfl, hb9⟩; have HB9 := Lib.hid hb9; clear hb9))
    go_ret
    exact ⟨rfl, below_new HB9.out⟩
end
end Go.Proofs.Ytmjpdojecdnkjaa
