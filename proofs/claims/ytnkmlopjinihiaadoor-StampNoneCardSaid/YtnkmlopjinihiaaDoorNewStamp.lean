/- Contracts of New of a sequencer of several producers, for both widths. -/
import Derived.Test.YtnkmlopjinihiaaDoorSeqNewP
import Derived.Test.YtnkmlopjinihiaaDoorSeqStamp
import Derived.Test.YtnkmlopjinihiaaDoorEnds
import Derived.Test.YtnkmlopjinihiaaDoorConf
import Derived.Test.YtnkmlopjinihiaaDoorNew
import Derived.RegionTactic
import Derived.BigRegion
import Derived.Deep.RegionLaw
namespace Go.Proofs.YtnkmlopjinihiaaDoor
open Go.RowKit
set_option linter.unusedVariables false
set_option linter.unusedSimpArgs false
set_option maxHeartbeats 4000000

def New4End32 (b : BS) (up : List (List Int)) (p lg : Nat) (w : World) : Ending → World → Prop := NewNEnd 165 48 .u32 M32 csX b.l.claim b up p lg w
set_option maxRecDepth 100000 in
theorem new4X32 (b : BS) (p : Nat) (lv : Option Addr) (w : World) (γ : Nat → Nat) (id : Nat) (hb : BoardAt 132 48 208 .u32 w γ id p b) (hv : b.l.c.variant ≠ 4) :
    Calls Tryd.prog 58 #[.pointer (some ⟨p, 0, none⟩), .pointer lv] w fun e w' => e = .returned (.pointer none) ∧ Below w.heap.size w w' := by
  have HL := Lib.hid (bLayout32 w γ id p b hb)
  obtain ⟨l, bcells, data, log⟩ := b
  obtain ⟨⟨variant, width, cap, producers, start, ua, un, uc⟩, cursor, claim, ticket, serving, next, marks, slots, cells⟩ := l
  simp only at *
  unfold Lay.vs at HL
  have hvb : (variant != 4) = true := by simp [hv]
  clear hb hv
  go_enter Tryd.func58, Tryd.ntmps58
  go_wp2_with (go_at_call 131; refine HL.out.mono ?_; rintro e w1 ⟨rfl, hb1⟩; have HB1 := Lib.hid hb1; clear hb1)
  go_ret
  exact ⟨rfl, HB1.out.alloc HB1.out.size _⟩
set_option maxRecDepth 100000 in
theorem new432 (Bk : Nat → Prop) (b : BS) (up : List (List Int)) (p lg : Nat) (w : World) (γ : Nat → Nat) (id : Nat) (hb : BoardAt 132 48 208 .u32 w γ id p b) (hv : b.l.c.variant = 4)
    (hun : b.l.c.un = up.length) (hok : CfOk b.l.c up) (hst : 0 ≤ b.l.c.start ∧ b.l.c.start ≤ 18446744073709551615) (hll : ∀ l ∈ up, l.length ≤ 1000000) (hbd : b.l.Bd) (hce : 0 < b.l.cells) (hw : MW b.l.c.width = M32) (hlc : b.l = mkLay b.l.c)
    (hB : ∀ x, Bk x → x < w.heap.size) (hU : UpAt w Bk b.l.c.ua up) (hg : 1 < w.heap.size) (hT : TabG 1 w) :
    Calls Tryd.prog 58 #[.pointer (some ⟨p, 0, none⟩), .pointer (some ⟨lg, 0, none⟩)] w (New4End32 b up p lg w) := by
  have HL := Lib.hid (bLayout32 w γ id p b hb)
  have hsi : InM M32 (cutM M32 b.l.c.start) := cutM_in32 _
  have HST := Lib.hid (fun W (hW : Below w.heap.size w W) => cstart Bk b.l.c up hun hok hst hll W (fun x hx => Nat.lt_of_lt_of_le (hB x hx) hW.size) (hU.below hW hB))
  rw [hw] at HST
  have HOF := Lib.hid (fun W => of32 (cutM M32 b.l.c.start) (inM_u64_32 hsi) W)
  rw [cut_id32 hsi] at HOF
  have HEN := Lib.hid (fun W (hW : Below w.heap.size w W) => gateEnds Bk b.l hbd hce up hun (by have h := hok.up; exact code_of_upOk h) hll W (fun x hx => Nat.lt_of_lt_of_le (hB x hx) hW.size) (hU.below hW hB) (Nat.lt_of_lt_of_le hg hW.size) (hT.below hW hg))
  have hpr := hok.producers
  obtain ⟨l, bcells, data, log⟩ := b
  obtain ⟨⟨variant, width, cap, producers, start, ua, un, uc⟩, cursor, claim, ticket, serving, next, marks, slots, cells⟩ := l
  simp only at *
  subst hv
  unfold Lay.vs at HL HEN
  unfold Cf.vs at HST
  generalize hsv : cutM M32 start = sv at *
  have HSV := Lib.hid hsv
  have HLC := Lib.hid hlc
  clear hb hun hok hst hll hbd hce hw hB hU hg hT hsi hsv hlc
  obtain ⟨j0, hj, hy0, hy1, hy2⟩ := info_parts w_info32
  have HJ := Lib.hid (And.intro hj (And.intro hy0 (And.intro hy1 hy2)))
  clear hj hy0 hy1 hy2
  go_enter Tryd.func58, Tryd.ntmps58
  go_wp2_with (first
    | (go_at_call 131; refine HL.out.mono ?_; rintro e w1 ⟨rfl, hb1⟩; have HB1 := Lib.hid hb1; clear hb1; have hbk := Blk.new w1 30 #[.int .i64 4, .int .i64 width, .int .i64 cap, .int .i64 producers, .int .u64 start, .slice ua un uc, .int .i64 cursor, .int .i64 claim, .int .i64 ticket, .int .i64 serving, .int .i64 next, .int .i64 marks, .int .i64 slots, .int .i64 cells]; have hzk := hbk.lt; have hex : ∃ x, x = w1.alloc (.cells #[.int .i64 4, .int .i64 width, .int .i64 cap, .int .i64 producers, .int .u64 start, .slice ua un uc, .int .i64 cursor, .int .i64 claim, .int .i64 ticket, .int .i64 serving, .int .i64 next, .int .i64 marks, .int .i64 slots, .int .i64 cells] 30) := ⟨_, rfl⟩; obtain ⟨q0, q1, q2, q3, q4, q5, q6, q7, q8, q9, q10, q11, q12, q13⟩ := blk_cells14 hbk; have HK := Lib.hid hbk; clear hbk))
  go_region_held3 (fun w' => w'.cell? ⟨w1.heap.size, 0, none⟩ = some (.int .i64 4) ∧ w'.cell? ⟨w1.heap.size, 1, none⟩ = some (.int .i64 width) ∧ w'.cell? ⟨w1.heap.size, 2, none⟩ = some (.int .i64 cap) ∧ w'.cell? ⟨w1.heap.size, 3, none⟩ = some (.int .i64 producers) ∧ w'.cell? ⟨w1.heap.size, 4, none⟩ = some (.int .u64 start) ∧ w'.cell? ⟨w1.heap.size, 5, none⟩ = some (.slice ua un uc) ∧ w'.cell? ⟨w1.heap.size, 6, none⟩ = some (.int .i64 cursor) ∧ w'.cell? ⟨w1.heap.size, 7, none⟩ = some (.int .i64 claim) ∧ w'.cell? ⟨w1.heap.size, 8, none⟩ = some (.int .i64 ticket) ∧ w'.cell? ⟨w1.heap.size, 9, none⟩ = some (.int .i64 serving) ∧ w'.cell? ⟨w1.heap.size, 10, none⟩ = some (.int .i64 next) ∧ w'.cell? ⟨w1.heap.size, 11, none⟩ = some (.int .i64 marks) ∧ w'.cell? ⟨w1.heap.size, 12, none⟩ = some (.int .i64 slots) ∧ w'.cell? ⟨w1.heap.size, 13, none⟩ = some (.int .i64 cells)) (go_keep) (first
    | (go_at_call 33; refine (HEN.out _ (Below.trans (HB1.out.alloc HB1.out.size _) (Below.mono (show Below (w1.alloc (.cells #[.int .i64 4, .int .i64 width, .int .i64 cap, .int .i64 producers, .int .u64 start, .slice ua un uc, .int .i64 cursor, .int .i64 claim, .int .i64 ticket, .int .i64 serving, .int .i64 next, .int .i64 marks, .int .i64 slots, .int .i64 cells] 30)).heap.size (w1.alloc (.cells #[.int .i64 4, .int .i64 width, .int .i64 cap, .int .i64 producers, .int .u64 start, .slice ua un uc, .int .i64 cursor, .int .i64 claim, .int .i64 ticket, .int .i64 serving, .int .i64 next, .int .i64 marks, .int .i64 slots, .int .i64 cells] 30)) _ from (by (repeat (with_reducible first | exact Below.refl _ _ | refine Below.drew ?_ | refine below_drewN ?_ _ | refine Below.setCell ?_ ?_ _ | refine Below.alloc ?_ ?_ _)); all_goals first | omega | (dsimp only; omega) | (simp; omega))) (by have := HB1.out.size; simp; omega)))).mono ?_; rintro e w3 ⟨v, rfl, hown, hb3⟩; obtain ⟨A3, c3, rfl, _⟩ := own_form hown; have hb3' : Below (w1.alloc (.cells #[.int .i64 4, .int .i64 width, .int .i64 cap, .int .i64 producers, .int .u64 start, .slice ua un uc, .int .i64 cursor, .int .i64 claim, .int .i64 ticket, .int .i64 serving, .int .i64 next, .int .i64 marks, .int .i64 slots, .int .i64 cells] 30)).heap.size (w1.alloc (.cells #[.int .i64 4, .int .i64 width, .int .i64 cap, .int .i64 producers, .int .u64 start, .slice ua un uc, .int .i64 cursor, .int .i64 claim, .int .i64 ticket, .int .i64 serving, .int .i64 next, .int .i64 marks, .int .i64 slots, .int .i64 cells] 30)) w3 := ⟨hb3.os, hb3.tape, hb3.output, hb3.size, hb3.block⟩; have HO3 := Lib.hid (And.intro hown hb3'); have hbk3 := HK.out.below hb3' (by simp); have hz3 : w1.heap.size < w3.heap.size := hbk3.lt; obtain ⟨s0, s1, s2, s3, s4, s5, s6, s7, s8, s9, s10, s11, s12, s13⟩ := blk_cells14 hbk3; have HK3 := Lib.hid hbk3; clear hown hb3 hb3' hbk3))
  go_wp2_with fail
  have HS3 := Lib.hid (SNStart (cs := (fun cv => #[.pointer (some ⟨p, 0, none⟩), .pointer (some ⟨lg, 0, none⟩), .int .i64 4, .int .i64 width, .int .i64 cap, .int .i64 producers, .int .u64 start, .slice ua un uc, .int .i64 cursor, .int .i64 claim, .int .i64 ticket, .int .i64 serving, .int .i64 next, .int .i64 marks, .int .i64 slots, .int .i64 cells, .slice A3 (endsP up).length c3, cv])) (li := 17) HB1.out HO3.out.2 HO3.out.1 HK3.out hz3 (fun _ _ => rfl) (fun _ => rfl) : SNInv 30 165 48 .u32 w (w3.alloc (.cells ((fun cv => #[.pointer (some ⟨p, 0, none⟩), .pointer (some ⟨lg, 0, none⟩), .int .i64 4, .int .i64 width, .int .i64 cap, .int .i64 producers, .int .u64 start, .slice ua un uc, .int .i64 cursor, .int .i64 claim, .int .i64 ticket, .int .i64 serving, .int .i64 next, .int .i64 marks, .int .i64 slots, .int .i64 cells, .slice A3 (endsP up).length c3, cv]) (.slice none 0 0)) 165)) w1.heap.size w3.heap.size 17 #[.int .i64 4, .int .i64 width, .int .i64 cap, .int .i64 producers, .int .u64 start, .slice ua un uc, .int .i64 cursor, .int .i64 claim, .int .i64 ticket, .int .i64 serving, .int .i64 next, .int .i64 marks, .int .i64 slots, .int .i64 cells] (fun cv => #[.pointer (some ⟨p, 0, none⟩), .pointer (some ⟨lg, 0, none⟩), .int .i64 4, .int .i64 width, .int .i64 cap, .int .i64 producers, .int .u64 start, .slice ua un uc, .int .i64 cursor, .int .i64 claim, .int .i64 ticket, .int .i64 serving, .int .i64 next, .int .i64 marks, .int .i64 slots, .int .i64 cells, .slice A3 (endsP up).length c3, cv]) (.slice A3 (endsP up).length c3) (endsP up) sv 0 (.slice none 0 0))
  go_loopw [23] (fun i wr => ∃ (k : Nat) (cv : Value), i = .int .i64 k ∧ (k : Int) ≤ producers ∧ SNInv 30 165 48 .u32 w wr w1.heap.size w3.heap.size 17 #[.int .i64 4, .int .i64 width, .int .i64 cap, .int .i64 producers, .int .u64 start, .slice ua un uc, .int .i64 cursor, .int .i64 claim, .int .i64 ticket, .int .i64 serving, .int .i64 next, .int .i64 marks, .int .i64 slots, .int .i64 cells] (fun cv => #[.pointer (some ⟨p, 0, none⟩), .pointer (some ⟨lg, 0, none⟩), .int .i64 4, .int .i64 width, .int .i64 cap, .int .i64 producers, .int .u64 start, .slice ua un uc, .int .i64 cursor, .int .i64 claim, .int .i64 ticket, .int .i64 serving, .int .i64 next, .int .i64 marks, .int .i64 slots, .int .i64 cells, .slice A3 (endsP up).length c3, cv]) (.slice A3 (endsP up).length c3) (endsP up) sv k cv) (fun i _ => 10 - (intOf i).toNat)
  case atStart => exact ⟨0, _, rfl, by omega, HS3.out⟩
  case round =>
    obtain ⟨k, cv, rfl, hk, hinv⟩ := hrel
    have HINV := Lib.hid hinv
    obtain ⟨q0, q1, q2, q3, q4, q5, q6, q7, q8, q9, q10, q11, q12, q13⟩ := blk_cells14 hinv.lay
    have e17 : wr.cell? ⟨w3.heap.size, 17, none⟩ = some cv := hinv.seq.cell 17
    have hlt3 := hinv.seq.lt
    have hlt1 := hinv.lay.lt
    clear hinv
    by_cases hlt : (k : Int) < producers
    · obtain ⟨A1, c1, rfl, hc1⟩ := own_form HINV.out.row
      have HK9 := Lib.hid (show k + 1 ≤ maxLen ∧ (k + 1) * (32 / 8) ≤ 140737488355328 from ⟨by unfold maxLen; omega, by omega⟩)
      obtain ⟨hj, hy0, hy1, hy2⟩ := HJ.out
      go_wp2_with fail
      go_region_law (first
        | (go_simp; go_at_call 115; refine (HST.out _ (Below.trans HINV.out.bel (Below.mono (show Below wr.heap.size wr _ from (by (repeat (with_reducible first | exact Below.refl _ _ | refine Below.drew ?_ | refine below_drewN ?_ _ | refine Below.setCell ?_ ?_ _ | refine Below.alloc ?_ ?_ _)); all_goals first | omega | (dsimp only; omega) | (simp; omega))) HINV.out.bel.size))).mono ?_; rintro e w5 ⟨rfl, hb5⟩; have hb6 : Below wr.heap.size wr w5 := ⟨hb5.os, hb5.tape, hb5.output, hb5.size, hb5.block⟩; have e5 := (hb6.cell (p := ⟨w3.heap.size, 17, none⟩) hlt3).trans e17; have hlt5 : w3.heap.size < w5.heap.size := Nat.lt_of_lt_of_le hlt3 hb6.size; have HB6 := Lib.hid hb6; clear hb5 hb6)
        | (go_simp; go_at_call 32; refine (HOF.out _).mono ?_; rintro e w' ⟨rfl, rfl⟩)
        | (refine step_append_lies _ rfl (.tmp 29) (.tmp 34) 130 rfl w.heap.size 48 j0 (.int .u32 0) 1 (32 / 8) Tryd.underlying130 hj hy0 hy1 hy2 rfl (by decide) (.slice A1 k c1) k _ rfl ((ownsRow_keep (w := wr) HINV.out.row fun g hg => HB6.out.block g (HINV.out.row.lt g hg).2).alloc _) ⟨w5.heap.size, 0, none⟩ 1 1 [.int .u32 sv] rfl rfl (news_one _ _ _) (one_int _ _) (by decide) HK9.out.1 HK9.out.2 (by have := HB6.out.size; have := HINV.out.bel.size; simp; omega) _ rfl ?_; intro g cc w6 hown hgrow hat hlt2; have hfz := SNInv.frozen (o := .cells #[.int .u32 sv] 48) (by decide) HINV.out HB6.out hgrow; have HOWN := Lib.hid hown; have HGR := Lib.hid hgrow; clear hown hgrow hat hlt2))
      all_goals go_wp2_with fail
      all_goals go_roundw
      all_goals first
        | exact ⟨k + 1, _, by go_num, by omega, SNInv.step (by decide) (by decide) (by decide) (by decide) HINV.out HB6.out HGR.out HOWN.out⟩
        | (simp only [intOf]; omega)
    · have hke : (k : Int) = producers := by omega
      have HKE := Lib.hid hke
      clear hke
      go_wp2_with fail
      go_ret
      exact SNInv.done (b := ⟨⟨⟨4, width, cap, producers, start, ua, un, uc⟩, cursor, claim, ticket, serving, next, marks, slots, cells⟩, bcells, data, log⟩) (cs := csX) (cell := claim) (p := p) (lg := lg) (HSV.out.symm ▸ HINV.out) HKE.out (fun la n lc => csX_eq (p := p) (lg := lg) (q := ⟨⟨4, width, cap, producers, start, ua, un, uc⟩, endsP up, claim, A3, c3⟩) (la := la) (n := n) (lc := lc) (l := ⟨⟨4, width, cap, producers, start, ua, un, uc⟩, cursor, claim, ticket, serving, next, marks, slots, cells⟩) HLC.out) 0
end Go.Proofs.YtnkmlopjinihiaaDoor
