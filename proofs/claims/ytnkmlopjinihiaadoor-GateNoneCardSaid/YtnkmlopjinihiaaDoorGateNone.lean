/- sakialaw16.GateNone returns true for every input, and changes nothing. -/
import Derived.Test.YtnkmlopjinihiaaDoorFits
import Derived.Test.YtnkmlopjinihiaaDoorGateNil
import Derived.Test.YtnkmlopjinihiaaDoorEnds
import Derived.Test.YtnkmlopjinihiaaDoorGuard
import Derived.Test.YtnkmlopjinihiaaDoorTurnF
import Derived.Test.YtnkmlopjinihiaaDoorLayOf
namespace Go.Proofs.YtnkmlopjinihiaaDoor
open Go.RowKit
set_option linter.unusedVariables false
set_option linter.unusedSimpArgs false
set_option maxHeartbeats 4000000

theorem live16b (w : World) : Calls Tryd.prog 27 #[] w fun e w' => e = .returned (.bool true) ∧ Below w.heap.size w w' :=
  (live16 w).mono fun e w' h => ⟨h.1, by rw [← h.2]; exact Below.refl _ _⟩
section
variable (w0 : World)
theorem scan_nil (b : BS) (t : Int) (k0 : Int) : scanP M64 b t [] { i := k0 } = (true, b, {}) := by unfold scanP; rw [if_pos (by simp)]
set_option maxRecDepth 100000 in
theorem gateNone_any (c : Cf) (up : List (List Int)) (hun : c.un = up.length) (hU : UpAt w0 (fun b => b < w0.heap.size) c.ua up) (hlen : up.length ≤ maxLen) (hll : ∀ l ∈ up, l.length ≤ maxLen) (hst : 0 ≤ c.start ∧ c.start ≤ 18446744073709551615) (k0 t : Int) (hg : 1 < w0.heap.size) (hT : TabG 1 w0) :
    Calls Tryd.prog 6 #[.agg c.vs.toArray, .int .i64 k0, .int .i64 t] w0 fun e w' => e = .returned (.bool true) ∧ Below w0.heap.size w0 w' := by
  have HV := Lib.hid live16b
  have hlo := fun W (hW : Below w0.heap.size w0 W) => llongB _ up c.ua c.uc hlen hll W (hU.below hW (fun b hb => hb))
  by_cases hs : ShortUp up
  · have hsb : (!decide (ShortUp up)) = false := by simp [hs]
    simp only [hsb] at hlo
    have hll6 : ∀ l ∈ up, l.length ≤ 1000000 := fun l hl => by have := hs.2 l hl; omega
    have hlen6 : up.length ≤ 1000000 := by have := hs.1; omega
    have hri := fun W (hW : Below w0.heap.size w0 W) => rrightOf _ c up hun hlen6 hll6 W (fun b hb => Nat.lt_of_lt_of_le hb hW.size) (hU.below hW (fun b hb => hb))
    by_cases hc : confCode c up = 0
    · have hok := cfOk_of_code hc
      simp only [show (confCode c up == 0) = true by simp [hc]] at hri
      by_cases hwid : c.width = 64
      · obtain ⟨variant, width, cap, producers, start, ua, un, uc⟩ := c
        unfold Cf.vs at *
        dsimp only at *
        subst hwid
        subst hun
        have HLO := Lib.hid hlo
        have HRI := Lib.hid hri
        have HOF := Lib.hid (fun W (hW : Below w0.heap.size w0 W) => layof (fun b => b < w0.heap.size) ⟨variant, 64, cap, producers, start, ua, up.length, uc⟩ up rfl hok hll6 W (fun b hb => Nat.lt_of_lt_of_le hb hW.size) (hU.below hW (fun b hb => hb)))
        have HNW := Lib.hid (fun (Bk : Nat → Prop) ua uc W hB hU => bnew64 Bk ⟨variant, 64, cap, producers, start, ua, up.length, uc⟩ up rfl (hok.ua ua uc) rfl hst hll6 W hB hU)
        have hft := fun ua uc => newBS_fit ⟨variant, 64, cap, producers, start, ua, up.length, uc⟩ (hok.ua ua uc) rfl
        have HFT := Lib.hid hft
        have hen := fun A3 c3 (X : World) (Bk : Nat → Prop) (hB : ∀ b, Bk b → b < X.heap.size) (hUX : UpAt X Bk A3 up) (h0X : Below w0.heap.size w0 X) W (hW : Below X.heap.size X W) => (gateEnds Bk (mkLay ⟨variant, 64, cap, producers, start, A3, up.length, c3⟩) (hft A3 c3).ok.bd (hft A3 c3).ok.pos up (by rw [mkLay_c]) (by have h := hok.up; exact code_of_upOk h) hll6 W (fun b hb => Nat.lt_of_lt_of_le (hB b hb) hW.size) (by rw [mkLay_c]; exact hUX.below hW hB) (Nat.lt_of_lt_of_le hg (Nat.le_trans h0X.size hW.size)) ((hT.below h0X hg).below hW (Nat.lt_of_lt_of_le hg h0X.size))).mono (fun e w' hq => (show ∃ A c, e = .returned (.slice A (endsP up).length c) ∧ Below X.heap.size X w' from by obtain ⟨v, he, ho, hb⟩ := hq; obtain ⟨A, c, rfl, _⟩ := own_form ho; exact ⟨A, c, he, hW.trans (hb.mono hW.size)⟩))
        unfold Lay.vs at hen
        have HEN := Lib.hid hen
        have HGT := Lib.hid (And.intro hg hT)
        unfold Cf.vs at HOF
        unfold Lay.vs at HNW
        clear hlo hri hU hll hlen hll6 hlen6 hs hsb hst hc hok hft hen hg hT
        go_enter Tryd.func6, Tryd.ntmps6
        go_wp2_with (first | (go_at_call 14; refine (HLO.out _ (by (repeat (with_reducible first | exact Below.refl _ _ | refine Below.drew ?_ | refine below_drewN ?_ _ | refine Below.setCell ?_ ?_ _ | refine Below.alloc ?_ ?_ _)); all_goals first | omega | (dsimp only; omega) | (simp; omega))).mono ?_; rintro e w' ⟨rfl, rfl⟩) | (go_at_call 15; refine (HRI.out _ (by (repeat (with_reducible first | exact Below.refl _ _ | refine Below.drew ?_ | refine below_drewN ?_ _ | refine Below.setCell ?_ ?_ _ | refine Below.alloc ?_ ?_ _)); all_goals first | omega | (dsimp only; omega) | (simp; omega))).mono ?_; rintro e w2 ⟨rfl, hb2⟩; obtain ⟨hc2, hf2⟩ := bcell hb2; have hz2 := hb2.size; have HCF2 := Lib.hid ((Blk.new w0 25 _).below hb2 (by simp)); have HB2 := Lib.hid hb2; clear hb2) | (go_at_call 27; refine (HV.out _).mono ?_; rintro e w9 ⟨rfl, hb9⟩; have HB9 := Lib.hid hb9; clear hb9) | (go_at_call 17; have hW1 := (((Below.refl w0.heap.size w0).alloc (Nat.le_refl _) _).trans (HB2.out.mono (by simp))); have hq := HOF.out _ hW1; refine hq.mono ?_; clear hq; rintro e w3 ⟨A3, c3, rfl, hcl3, hU3, hb3⟩; unfold Lay.vs; obtain ⟨hc3, hf3⟩ := bcell hb3; have HCF3 := Lib.hid (HCF2.out.below hb3 HCF2.out.lt); have HU3 := Lib.hid hU3; have HB3 := Lib.hid hb3; have hz3 := hb3.size; have HW3 := Lib.hid (hW1.trans (hb3.mono hW1.size)); clear hU3 hb3 hcl3 hW1) | (go_at_call 39; refine (HNW.out _ A3 c3 _ (by intro b hb; have := hb.2; simp; omega) (HU3.out.below (B := w3.heap.size) (by (repeat (with_reducible first | exact Below.refl _ _ | refine Below.drew ?_ | refine below_drewN ?_ _ | refine Below.setCell ?_ ?_ _ | refine Below.alloc ?_ ?_ _)); all_goals first | omega | (dsimp only; omega) | (simp; omega)) (fun b hb => hb.2))).mono ?_; intro e w4 hN; obtain ⟨p, γ4, rfl, hb4, hp4, hB4, hO4, hl4⟩ := new_old 208 (w0 := w0) (HW3.out.alloc HW3.out.size _) hN; have hz4 := hb4.size; have hz34 : w3.heap.size < w4.heap.size := Nat.lt_of_lt_of_le (by simp) hz4; have hex := bf_make hO4 hB4 75 { i := k0 }; obtain ⟨γ5, hO5, hBF, hl5⟩ := hex; have hlk := ((Blk.new w3 30 #[.int .i64 (mkLay ⟨variant, 64, cap, producers, start, A3, up.length, c3⟩).c.variant, .int .i64 (mkLay ⟨variant, 64, cap, producers, start, A3, up.length, c3⟩).c.width, .int .i64 (mkLay ⟨variant, 64, cap, producers, start, A3, up.length, c3⟩).c.cap, .int .i64 (mkLay ⟨variant, 64, cap, producers, start, A3, up.length, c3⟩).c.producers, .int .u64 (mkLay ⟨variant, 64, cap, producers, start, A3, up.length, c3⟩).c.start, .slice (mkLay ⟨variant, 64, cap, producers, start, A3, up.length, c3⟩).c.ua (mkLay ⟨variant, 64, cap, producers, start, A3, up.length, c3⟩).c.un (mkLay ⟨variant, 64, cap, producers, start, A3, up.length, c3⟩).c.uc, .int .i64 (mkLay ⟨variant, 64, cap, producers, start, A3, up.length, c3⟩).cursor, .int .i64 (mkLay ⟨variant, 64, cap, producers, start, A3, up.length, c3⟩).claim, .int .i64 (mkLay ⟨variant, 64, cap, producers, start, A3, up.length, c3⟩).ticket, .int .i64 (mkLay ⟨variant, 64, cap, producers, start, A3, up.length, c3⟩).serving, .int .i64 (mkLay ⟨variant, 64, cap, producers, start, A3, up.length, c3⟩).next, .int .i64 (mkLay ⟨variant, 64, cap, producers, start, A3, up.length, c3⟩).marks, .int .i64 (mkLay ⟨variant, 64, cap, producers, start, A3, up.length, c3⟩).slots, .int .i64 (mkLay ⟨variant, 64, cap, producers, start, A3, up.length, c3⟩).cells]).below hb4 (by simp)).alloc (.cells #[.int .i64 0, .int .i64 0, .int .i64 0, .int .i64 0, .int .i64 k0, .int .i64 0, .int .u64 0, .int .u64 0, .int .u64 0, .int .u64 0, .slice none 0 0] 75); obtain ⟨q0, q1, q2, q3, q4, q5, q6, q7, q8, q9, q10, q11, q12, q13⟩ := blk_cells14 hlk; have HLB := Lib.hid (fun b (hb : b ≤ w3.heap.size) => (hl5 b (Nat.lt_of_le_of_lt hb hz34)).trans (hl4 b (by simp; omega))); have HX := Lib.hid (And.intro (show BFAt 142 22 208 .u64 (bfP 75 p w4.heap.size) (w4.alloc (.cells #[.int .i64 0, .int .i64 0, .int .i64 0, .int .i64 0, .int .i64 k0, .int .i64 0, .int .u64 0, .int .u64 0, .int .u64 0, .int .u64 0, .slice none 0 0] 75)) γ5 (w4.alloc (.cells #[.int .i64 0, .int .i64 0, .int .i64 0, .int .i64 0, .int .i64 k0, .int .i64 0, .int .u64 0, .int .u64 0, .int .u64 0, .int .u64 0, .slice none 0 0] 75)) γ5 (newBS (mkLay ⟨variant, 64, cap, producers, start, A3, up.length, c3⟩)) { i := k0 } from hBF) (And.intro (show Old w0 (w4.alloc (.cells #[.int .i64 0, .int .i64 0, .int .i64 0, .int .i64 0, .int .i64 k0, .int .i64 0, .int .u64 0, .int .u64 0, .int .u64 0, .int .u64 0, .slice none 0 0] 75)) γ5 from hO5) (And.intro (show UpAt (w4.alloc (.cells #[.int .i64 0, .int .i64 0, .int .i64 0, .int .i64 0, .int .i64 k0, .int .i64 0, .int .u64 0, .int .u64 0, .int .u64 0, .int .u64 0, .slice none 0 0] 75)) (fun b => b < w3.heap.size) A3 up from ((HU3.out.mono (Bk' := fun b => b < w3.heap.size) (fun b hb => hb.2)).below (below_new hb4) (fun b hb => hb)).below (B := w4.heap.size) ((Below.refl _ _).alloc (Nat.le_refl _) _) (fun b hb => Nat.lt_trans hb hz34)) (And.intro (show Below w0.heap.size w0 (w4.alloc (.cells #[.int .i64 0, .int .i64 0, .int .i64 0, .int .i64 0, .int .i64 k0, .int .i64 0, .int .u64 0, .int .u64 0, .int .u64 0, .int .u64 0, .slice none 0 0] 75)) from HW3.out.trans (((below_new hb4).alloc (Nat.le_of_lt hz34) _).mono HW3.out.size)) hlk)))); clear hN hb4 hp4 hB4 hO4 hl4 hO5 hBF hl5 hlk))
        have hX := HX.out
        have hF4 : (w4.alloc (.cells #[.int .i64 0, .int .i64 0, .int .i64 0, .int .i64 0, .int .i64 k0, .int .i64 0, .int .u64 0, .int .u64 0, .int .u64 0, .int .u64 0, .slice none 0 0] 75)).cell? ⟨w4.heap.size, 4, none⟩ = some (.int .i64 k0) := hX.1.cI
        obtain ⟨hBF, hO5, hUX, h0X, hLX⟩ := hX
        have hXl := hLX.lt
        generalize w4.alloc (.cells #[.int .i64 0, .int .i64 0, .int .i64 0, .int .i64 0, .int .i64 k0, .int .i64 0, .int .u64 0, .int .u64 0, .int .u64 0, .int .u64 0, .slice none 0 0] 75) = X at *
        have HBF := Lib.hid hBF
        have HO5 := Lib.hid hO5
        have HLX := Lib.hid hLX
        have HUX := Lib.hid hUX
        have hXl2 := hXl
        have HEX := Lib.hid (HEN.out A3 c3 X _ (fun b hb => Nat.lt_trans hb hXl) hUX h0X)
        have H0X := Lib.hid h0X
        clear hBF hO5 hUX h0X hLX HX
        go_region_held3 (fun w' => w'.cell? ⟨w3.heap.size, 0, none⟩ = some (.int .i64 (mkLay ⟨variant, 64, cap, producers, start, A3, up.length, c3⟩).c.variant) ∧ w'.cell? ⟨w3.heap.size, 1, none⟩ = some (.int .i64 (mkLay ⟨variant, 64, cap, producers, start, A3, up.length, c3⟩).c.width) ∧ w'.cell? ⟨w3.heap.size, 2, none⟩ = some (.int .i64 (mkLay ⟨variant, 64, cap, producers, start, A3, up.length, c3⟩).c.cap) ∧ w'.cell? ⟨w3.heap.size, 3, none⟩ = some (.int .i64 (mkLay ⟨variant, 64, cap, producers, start, A3, up.length, c3⟩).c.producers) ∧ w'.cell? ⟨w3.heap.size, 4, none⟩ = some (.int .u64 (mkLay ⟨variant, 64, cap, producers, start, A3, up.length, c3⟩).c.start) ∧ w'.cell? ⟨w3.heap.size, 5, none⟩ = some (.slice (mkLay ⟨variant, 64, cap, producers, start, A3, up.length, c3⟩).c.ua (mkLay ⟨variant, 64, cap, producers, start, A3, up.length, c3⟩).c.un (mkLay ⟨variant, 64, cap, producers, start, A3, up.length, c3⟩).c.uc) ∧ w'.cell? ⟨w3.heap.size, 6, none⟩ = some (.int .i64 (mkLay ⟨variant, 64, cap, producers, start, A3, up.length, c3⟩).cursor) ∧ w'.cell? ⟨w3.heap.size, 7, none⟩ = some (.int .i64 (mkLay ⟨variant, 64, cap, producers, start, A3, up.length, c3⟩).claim) ∧ w'.cell? ⟨w3.heap.size, 8, none⟩ = some (.int .i64 (mkLay ⟨variant, 64, cap, producers, start, A3, up.length, c3⟩).ticket) ∧ w'.cell? ⟨w3.heap.size, 9, none⟩ = some (.int .i64 (mkLay ⟨variant, 64, cap, producers, start, A3, up.length, c3⟩).serving) ∧ w'.cell? ⟨w3.heap.size, 10, none⟩ = some (.int .i64 (mkLay ⟨variant, 64, cap, producers, start, A3, up.length, c3⟩).next) ∧ w'.cell? ⟨w3.heap.size, 11, none⟩ = some (.int .i64 (mkLay ⟨variant, 64, cap, producers, start, A3, up.length, c3⟩).marks) ∧ w'.cell? ⟨w3.heap.size, 12, none⟩ = some (.int .i64 (mkLay ⟨variant, 64, cap, producers, start, A3, up.length, c3⟩).slots) ∧ w'.cell? ⟨w3.heap.size, 13, none⟩ = some (.int .i64 (mkLay ⟨variant, 64, cap, producers, start, A3, up.length, c3⟩).cells)) (go_keep) (first
          | (go_at_call 40; (with_reducible refine (gscanN64 none _ (.inl rfl) _ _ _ _ _).mono ?_); rintro e w' ⟨rfl, rfl⟩)
          | (go_at_call 40; (with_reducible refine (gscanN64 _ none (.inr rfl) _ _ _ _ _).mono ?_); rintro e w' ⟨rfl, rfl⟩)
          | (go_at_call 33; refine (HEX.out _ (Below.trans HEw6.out (Below.mono (show Below w6.heap.size w6 _ from (by (repeat (with_reducible first | exact Below.refl _ _ | refine Below.drew ?_ | refine below_drewN ?_ _ | refine Below.setCell ?_ ?_ _ | refine Below.alloc ?_ ?_ _)); all_goals first | omega | (dsimp only; omega) | (simp; omega))) HEw6.out.size))).mono ?_; rintro e w7 ⟨EAw7, ECw7, rfl, hbw7⟩; have hkw7 := HLX.out.below hbw7 HLX.out.lt; obtain ⟨q0, q1, q2, q3, q4, q5, q6, q7, q8, q9, q10, q11, q12, q13⟩ := blk_cells14 hkw7; have hltw7 := hkw7.lt; have HEw7 := Lib.hid hbw7; clear hbw7 hkw7)
          | (go_at_call 33; refine (HEX.out _ (by (repeat (with_reducible first | exact Below.refl _ _ | refine Below.drew ?_ | refine below_drewN ?_ _ | refine Below.setCell ?_ ?_ _ | refine Below.alloc ?_ ?_ _)); all_goals first | omega | (dsimp only; omega) | (simp; omega))).mono ?_; rintro e w6 ⟨EAw6, ECw6, rfl, hbw6⟩; have hkw6 := HLX.out.below hbw6 HLX.out.lt; obtain ⟨q0, q1, q2, q3, q4, q5, q6, q7, q8, q9, q10, q11, q12, q13⟩ := blk_cells14 hkw6; have hltw6 := hkw6.lt; have HEw6 := Lib.hid hbw6; clear hbw6 hkw6))
        have hF7 : w7.cell? ⟨w4.heap.size, 4, none⟩ = some (.int .i64 k0) := (HBF.out.below HEw7.out).cI
        go_wp2_with (first
          | (go_at_call 40; have hq := gscan64 _ _ _ _ _ _ _ (HBF.out.below (Below.trans HEw7.out (Below.mono (show Below w7.heap.size w7 _ from (by (repeat (with_reducible first | exact Below.refl _ _ | refine Below.drew ?_ | refine below_drewN ?_ _ | refine Below.setCell ?_ ?_ _ | refine Below.alloc ?_ ?_ _)); all_goals first | omega | (dsimp only; omega) | (simp; omega))) HEw7.out.size))) (HFT.out A3 c3) (show 0 ≤ 1000000 by decide) t none [] 0 (fun _ => True) (fun i x hx => by simp at hx) (show 0 ≤ 1000000 by decide); rw [show scanP M64 (newBS (mkLay ⟨variant, 64, cap, producers, start, A3, up.length, c3⟩)) t [] { i := k0 } = (true, newBS (mkLay ⟨variant, 64, cap, producers, start, A3, up.length, c3⟩), {}) from scan_nil _ _ _] at hq; refine hq.mono ?_; clear hq; rintro e w8 ⟨rfl, γ8, h8⟩; have HB8 := Lib.hid h8; have c8 : w8.cell? ⟨w4.heap.size, 4, none⟩ = some (.int .i64 0) := h8.cI; have hO8 := HO5.out.fr h8.fr (by unfold TwoId; simp [bfP]); have hk8 := h8.fr.block_ HLX.out (by rw [HLB.out _ (Nat.le_refl _)]; unfold TwoId; simp [bfP]); obtain ⟨q0, q1, q2, q3, q4, q5, q6, q7, q8, q9, q10, q11, q12, q13⟩ := blk_cells14 hk8; have hlt8 := hk8.lt; have hU8 := HUX.out.keeps (w' := w8) (fun b hb => h8.fr.block b (Nat.lt_trans hb hXl2) (by rw [HLB.out b (Nat.le_of_lt hb)]; unfold TwoId; simp [bfP])); have HE8 := Lib.hid (HEN.out A3 c3 w8 _ (fun b hb => Nat.lt_trans hb hlt8) hU8 hO8.bel); have HO8 := Lib.hid hO8.bel; clear h8 hO8 hk8 hU8)
          | (go_at_call 41; refine (bLen64 _ _ 1 p _ HB8.out.brd).mono ?_; rintro e w' ⟨rfl, rfl⟩; rw [show (newBS (mkLay ⟨variant, 64, cap, producers, start, A3, up.length, c3⟩)).log.length = 0 from rfl])
          | (go_at_call 42; (with_reducible refine (gleastN64 none _ _ _ (.inl rfl) _).mono ?_); rintro e w' ⟨rfl, rfl⟩)
          | (go_at_call 42; (with_reducible refine (gleastN64 _ _ 0 _ (.inr rfl) _).mono ?_); rintro e w' ⟨rfl, rfl⟩)
          | (go_at_call 33; (with_reducible refine (endsZ _).mono ?_); rintro e wb ⟨rfl, hbb⟩; have HBb := Lib.hid (HBa.out.trans (hbb.mono HBa.out.size)); clear hbb)
          | (go_at_call 43; refine (upsZ _ _).mono ?_; rintro e wc ⟨rfl, hbc⟩; have HBc := Lib.hid (HBb.out.trans (hbc.mono HBb.out.size)); clear hbc)
          | (go_at_call 33; refine (HE8.out _ (by (repeat (with_reducible first | exact Below.refl _ _ | refine Below.drew ?_ | refine below_drewN ?_ _ | refine Below.setCell ?_ ?_ _ | refine Below.alloc ?_ ?_ _)); all_goals first | omega | (dsimp only; omega) | (simp; omega))).mono ?_; rintro e wa ⟨EAa, ECa, rfl, hba⟩; have HBa := Lib.hid (HO8.out.trans (hba.mono HO8.out.size)); clear hba)
          | (go_at_call 27; refine (HV.out _).mono ?_; rintro e w9 ⟨rfl, hb9⟩; have HB9 := Lib.hid hb9; clear hb9))
        go_ret
        exact ⟨rfl, HBc.out.trans (HB9.out.mono HBc.out.size)⟩
      · have hwb : (c.width != 64) = true := by simp [hwid]
        obtain ⟨variant, width, cap, producers, start, ua, un, uc⟩ := c
        unfold Cf.vs at *
        dsimp only at *
        subst hun
        have HLO := Lib.hid hlo
        have HRI := Lib.hid hri
        clear hlo hri hU hll hlen hll6 hlen6 hs hsb hst hc hok hwid
        go_enter Tryd.func6, Tryd.ntmps6
        go_wp2_with (first | (go_at_call 14; refine (HLO.out _ (by (repeat (with_reducible first | exact Below.refl _ _ | refine Below.drew ?_ | refine below_drewN ?_ _ | refine Below.setCell ?_ ?_ _ | refine Below.alloc ?_ ?_ _)); all_goals first | omega | (dsimp only; omega) | (simp; omega))).mono ?_; rintro e w' ⟨rfl, rfl⟩) | (go_at_call 15; refine (HRI.out _ (by (repeat (with_reducible first | exact Below.refl _ _ | refine Below.drew ?_ | refine below_drewN ?_ _ | refine Below.setCell ?_ ?_ _ | refine Below.alloc ?_ ?_ _)); all_goals first | omega | (dsimp only; omega) | (simp; omega))).mono ?_; rintro e w2 ⟨rfl, hb2⟩; obtain ⟨hc2, hf2⟩ := bcell hb2; have hz2 := hb2.size; have HCF2 := Lib.hid ((Blk.new w0 25 _).below hb2 (by simp)); have HB2 := Lib.hid hb2; clear hb2) | (go_at_call 27; refine (HV.out _).mono ?_; rintro e w9 ⟨rfl, hb9⟩; have HB9 := Lib.hid hb9; clear hb9))
        go_ret
        exact ⟨rfl, below_new (HB2.out.trans (HB9.out.mono HB2.out.size))⟩
    · simp only [show (confCode c up == 0) = false by simp [hc]] at hri
      obtain ⟨variant, width, cap, producers, start, ua, un, uc⟩ := c
      unfold Cf.vs at *
      dsimp only at *
      subst hun
      have HLO := Lib.hid hlo
      have HRI := Lib.hid hri
      clear hlo hri hU hll hlen hll6 hlen6 hs hsb hst hc
      go_enter Tryd.func6, Tryd.ntmps6
      go_wp2_with (first | (go_at_call 14; refine (HLO.out _ (by (repeat (with_reducible first | exact Below.refl _ _ | refine Below.drew ?_ | refine below_drewN ?_ _ | refine Below.setCell ?_ ?_ _ | refine Below.alloc ?_ ?_ _)); all_goals first | omega | (dsimp only; omega) | (simp; omega))).mono ?_; rintro e w' ⟨rfl, rfl⟩) | (go_at_call 15; refine (HRI.out _ (by (repeat (with_reducible first | exact Below.refl _ _ | refine Below.drew ?_ | refine below_drewN ?_ _ | refine Below.setCell ?_ ?_ _ | refine Below.alloc ?_ ?_ _)); all_goals first | omega | (dsimp only; omega) | (simp; omega))).mono ?_; rintro e w2 ⟨rfl, hb2⟩; obtain ⟨hc2, hf2⟩ := bcell hb2; have hz2 := hb2.size; have HCF2 := Lib.hid ((Blk.new w0 25 _).below hb2 (by simp)); have HB2 := Lib.hid hb2; clear hb2) | (go_at_call 27; refine (HV.out _).mono ?_; rintro e w9 ⟨rfl, hb9⟩; have HB9 := Lib.hid hb9; clear hb9))
      go_ret
      exact ⟨rfl, below_new (HB2.out.trans (HB9.out.mono HB2.out.size))⟩
  · simp only [show (!decide (ShortUp up)) = true by simp [hs]] at hlo
    obtain ⟨variant, width, cap, producers, start, ua, un, uc⟩ := c
    unfold Cf.vs at *
    dsimp only at *
    subst hun
    have HLO := Lib.hid hlo
    clear hlo hU hll hlen hs hst
    go_enter Tryd.func6, Tryd.ntmps6
    go_wp2_with (first | (go_at_call 14; refine (HLO.out _ (by (repeat (with_reducible first | exact Below.refl _ _ | refine Below.drew ?_ | refine below_drewN ?_ _ | refine Below.setCell ?_ ?_ _ | refine Below.alloc ?_ ?_ _)); all_goals first | omega | (dsimp only; omega) | (simp; omega))).mono ?_; rintro e w' ⟨rfl, rfl⟩) | (go_at_call 27; refine (HV.out _).mono ?_; rintro e w9 ⟨rfl, hb9⟩; have HB9 := Lib.hid hb9; clear hb9))
    go_ret
    exact ⟨rfl, below_new HB9.out⟩
end
end Go.Proofs.YtnkmlopjinihiaaDoor
