/- Contracts of the sequencers' New, for both widths. -/
import Derived.Test.YtnkmlopjinihiaaDoorSeqOne
import Derived.Test.YtnkmlopjinihiaaDoorEnds
import Derived.Test.YtnkmlopjinihiaaDoorConf
namespace Go.Proofs.YtnkmlopjinihiaaDoor
open Go.RowKit
set_option linter.unusedVariables false
set_option linter.unusedSimpArgs false
set_option maxHeartbeats 4000000

/-- what a sequencer of one producer is made with -/
def New1End32 (b : BS) (up : List (List Int)) (p lg : Nat) (w : World) (e : Ending) (w' : World) : Prop :=
  ∃ g A c, e = .returned (.pointer (some ⟨g, 0, none⟩)) ∧ Below w.heap.size w w' ∧ w.heap.size ≤ g ∧ ∀ γ id, Seq1At 195 .u32 w' (Lab w γ id) id g p lg ⟨b.l.c, endsP up, b.l.cursor, A, c⟩ (cutM M32 b.l.c.start) (cutM M32 b.l.c.start)
set_option maxRecDepth 100000 in
theorem new1X32 (b : BS) (p : Nat) (lv : Option Addr) (w : World) (γ : Nat → Nat) (id : Nat) (hb : BoardAt 132 48 208 .u32 w γ id p b) (hv : b.l.c.variant ≠ 1) :
    Calls Tryd.prog 120 #[.pointer (some ⟨p, 0, none⟩), .pointer lv] w fun e w' => e = .returned (.pointer none) ∧ Below w.heap.size w w' := by
  have HL := Lib.hid (bLayout32 w γ id p b hb)
  obtain ⟨l, bcells, data, log⟩ := b
  obtain ⟨⟨variant, width, cap, producers, start, ua, un, uc⟩, cursor, claim, ticket, serving, next, marks, slots, cells⟩ := l
  simp only at *
  unfold Lay.vs at HL
  have hvb : (variant != 1) = true := by simp [hv]
  clear hb hv
  go_enter Tryd.func120, Tryd.ntmps120
  go_wp2_with (go_at_call 131; refine HL.out.mono ?_; rintro e w1 ⟨rfl, hb1⟩; have HB1 := Lib.hid hb1; clear hb1)
  go_ret
  exact ⟨rfl, HB1.out.alloc HB1.out.size _⟩
set_option maxRecDepth 100000 in
theorem new132 (Bk : Nat → Prop) (b : BS) (up : List (List Int)) (p lg : Nat) (w : World) (γ : Nat → Nat) (id : Nat) (hb : BoardAt 132 48 208 .u32 w γ id p b) (hv : b.l.c.variant = 1)
    (hun : b.l.c.un = up.length) (hok : CfOk b.l.c up) (hst : 0 ≤ b.l.c.start ∧ b.l.c.start ≤ 18446744073709551615) (hll : ∀ l ∈ up, l.length ≤ 1000000) (hbd : b.l.Bd) (hce : 0 < b.l.cells) (hw : MW b.l.c.width = M32)
    (hB : ∀ x, Bk x → x < w.heap.size) (hU : UpAt w Bk b.l.c.ua up) (hg : 1 < w.heap.size) (hT : TabG 1 w) :
    Calls Tryd.prog 120 #[.pointer (some ⟨p, 0, none⟩), .pointer (some ⟨lg, 0, none⟩)] w (New1End32 b up p lg w) := by
  have HL := Lib.hid (bLayout32 w γ id p b hb)
  have hsi : InM M32 (cutM M32 b.l.c.start) := cutM_in32 _
  have HST := Lib.hid (fun W (hW : Below w.heap.size w W) => cstart Bk b.l.c up hun hok hst hll W (fun x hx => Nat.lt_of_lt_of_le (hB x hx) hW.size) (hU.below hW hB))
  rw [hw] at HST
  have HOF := Lib.hid (fun W => of32 (cutM M32 b.l.c.start) (inM_u64_32 hsi) W)
  rw [cut_id32 hsi] at HOF
  have HEN := Lib.hid (fun W (hW : Below w.heap.size w W) => gateEnds Bk b.l hbd hce up hun (by have h := hok.up; exact code_of_upOk h) hll W (fun x hx => Nat.lt_of_lt_of_le (hB x hx) hW.size) (hU.below hW hB) (Nat.lt_of_lt_of_le hg hW.size) (hT.below hW hg))
  unfold New1End32
  obtain ⟨l, bcells, data, log⟩ := b
  obtain ⟨⟨variant, width, cap, producers, start, ua, un, uc⟩, cursor, claim, ticket, serving, next, marks, slots, cells⟩ := l
  simp only at *
  unfold Lay.vs at HL HEN
  unfold Cf.vs at HST
  subst hv
  generalize hsv : cutM M32 start = sv at *
  clear hb hun hok hst hll hbd hce hw hB hU hg hT hsi hsv
  go_enter Tryd.func120, Tryd.ntmps120
  go_wp2_with (first
    | (go_at_call 131; refine HL.out.mono ?_; rintro e w1 ⟨rfl, hb1⟩; have HB1 := Lib.hid hb1; clear hb1; have HK := Lib.hid (Blk.new w1 30 #[.int .i64 1, .int .i64 width, .int .i64 cap, .int .i64 producers, .int .u64 start, .slice ua un uc, .int .i64 cursor, .int .i64 claim, .int .i64 ticket, .int .i64 serving, .int .i64 next, .int .i64 marks, .int .i64 slots, .int .i64 cells]))
    | (go_at_call 115; refine (HST.out _ (HB1.out.alloc HB1.out.size _)).mono ?_; rintro e w2 ⟨rfl, hb2⟩; have HK2 := Lib.hid (HK.out.below hb2 (by simp)); obtain ⟨q0, q1, q2, q3, q4, q5, q6, q7, q8, q9, q10, q11, q12, q13⟩ := blk_cells14 (HK.out.below hb2 (by simp)); have hz2 : w1.heap.size < w2.heap.size := Nat.lt_of_lt_of_le (by simp) hb2.size; have HB2 := Lib.hid ((HB1.out.alloc HB1.out.size _).trans (hb2.mono (Nat.le_trans HB1.out.size (by simp)))); clear hb2)
    | (go_at_call 32; refine (HOF.out _).mono ?_; rintro e w' ⟨rfl, rfl⟩))
  go_region_held3 (fun w' => w'.cell? ⟨w1.heap.size, 0, none⟩ = some (.int .i64 1) ∧ w'.cell? ⟨w1.heap.size, 1, none⟩ = some (.int .i64 width) ∧ w'.cell? ⟨w1.heap.size, 2, none⟩ = some (.int .i64 cap) ∧ w'.cell? ⟨w1.heap.size, 3, none⟩ = some (.int .i64 producers) ∧ w'.cell? ⟨w1.heap.size, 4, none⟩ = some (.int .u64 start) ∧ w'.cell? ⟨w1.heap.size, 5, none⟩ = some (.slice ua un uc) ∧ w'.cell? ⟨w1.heap.size, 6, none⟩ = some (.int .i64 cursor) ∧ w'.cell? ⟨w1.heap.size, 7, none⟩ = some (.int .i64 claim) ∧ w'.cell? ⟨w1.heap.size, 8, none⟩ = some (.int .i64 ticket) ∧ w'.cell? ⟨w1.heap.size, 9, none⟩ = some (.int .i64 serving) ∧ w'.cell? ⟨w1.heap.size, 10, none⟩ = some (.int .i64 next) ∧ w'.cell? ⟨w1.heap.size, 11, none⟩ = some (.int .i64 marks) ∧ w'.cell? ⟨w1.heap.size, 12, none⟩ = some (.int .i64 slots) ∧ w'.cell? ⟨w1.heap.size, 13, none⟩ = some (.int .i64 cells)) (go_keep) (first
    | (go_at_call 33; refine (HEN.out _ (HB2.out.trans (Below.mono (show Below w2.heap.size w2 _ from (by (repeat (with_reducible first | exact Below.refl _ _ | refine Below.drew ?_ | refine below_drewN ?_ _ | refine Below.setCell ?_ ?_ _ | refine Below.alloc ?_ ?_ _)); all_goals first | omega | (dsimp only; omega) | (simp; omega))) HB2.out.size))).mono ?_; rintro e w3 ⟨v, rfl, hown, hb3⟩; obtain ⟨A3, c3, rfl, _⟩ := own_form hown; have hb3' : Below w2.heap.size w2 w3 := ⟨hb3.os, hb3.tape, hb3.output, hb3.size, hb3.block⟩; have HO3 := Lib.hid (And.intro hown hb3'); have hz3 : w1.heap.size < w3.heap.size := Nat.lt_of_lt_of_le hz2 hb3'.size; obtain ⟨s0, s1, s2, s3, s4, s5, s6, s7, s8, s9, s10, s11, s12, s13⟩ := blk_cells14 (HK2.out.below hb3' hz2); clear hown hb3 hb3'))
  go_wp2_with fail
  go_ret
  have h3 := HB2.out.trans (HO3.out.2.mono HB2.out.size)
  refine ⟨w3.heap.size, A3, c3, rfl, h3.alloc h3.size _, h3.size, fun γ id => ⟨Blk.new _ _ _, ?_, (own_base HO3.out.1 (Nat.zero_le _)).alloc _, fun g hg => ?_⟩⟩
  · unfold Lab; rw [if_neg (by have := h3.size; omega)]
  · have h4 : w2.heap.size ≤ g := (HO3.out.1.lt g hg).1
    unfold Lab; rw [if_neg (by have := HB2.out.size; omega)]
/-- what a sequencer of one producer is made with -/
def New1End64 (b : BS) (up : List (List Int)) (p lg : Nat) (w : World) (e : Ending) (w' : World) : Prop :=
  ∃ g A c, e = .returned (.pointer (some ⟨g, 0, none⟩)) ∧ Below w.heap.size w w' ∧ w.heap.size ≤ g ∧ ∀ γ id, Seq1At 158 .u64 w' (Lab w γ id) id g p lg ⟨b.l.c, endsP up, b.l.cursor, A, c⟩ (cutM M64 b.l.c.start) (cutM M64 b.l.c.start)
set_option maxRecDepth 100000 in
theorem new1X64 (b : BS) (p : Nat) (lv : Option Addr) (w : World) (γ : Nat → Nat) (id : Nat) (hb : BoardAt 142 22 208 .u64 w γ id p b) (hv : b.l.c.variant ≠ 1) :
    Calls Tryd.prog 51 #[.pointer (some ⟨p, 0, none⟩), .pointer lv] w fun e w' => e = .returned (.pointer none) ∧ Below w.heap.size w w' := by
  have HL := Lib.hid (bLayout64 w γ id p b hb)
  obtain ⟨l, bcells, data, log⟩ := b
  obtain ⟨⟨variant, width, cap, producers, start, ua, un, uc⟩, cursor, claim, ticket, serving, next, marks, slots, cells⟩ := l
  simp only at *
  unfold Lay.vs at HL
  have hvb : (variant != 1) = true := by simp [hv]
  clear hb hv
  go_enter Tryd.func51, Tryd.ntmps51
  go_wp2_with (go_at_call 124; refine HL.out.mono ?_; rintro e w1 ⟨rfl, hb1⟩; have HB1 := Lib.hid hb1; clear hb1)
  go_ret
  exact ⟨rfl, HB1.out.alloc HB1.out.size _⟩
set_option maxRecDepth 100000 in
theorem new164 (Bk : Nat → Prop) (b : BS) (up : List (List Int)) (p lg : Nat) (w : World) (γ : Nat → Nat) (id : Nat) (hb : BoardAt 142 22 208 .u64 w γ id p b) (hv : b.l.c.variant = 1)
    (hun : b.l.c.un = up.length) (hok : CfOk b.l.c up) (hst : 0 ≤ b.l.c.start ∧ b.l.c.start ≤ 18446744073709551615) (hll : ∀ l ∈ up, l.length ≤ 1000000) (hbd : b.l.Bd) (hce : 0 < b.l.cells) (hw : MW b.l.c.width = M64)
    (hB : ∀ x, Bk x → x < w.heap.size) (hU : UpAt w Bk b.l.c.ua up) (hg : 1 < w.heap.size) (hT : TabG 1 w) :
    Calls Tryd.prog 51 #[.pointer (some ⟨p, 0, none⟩), .pointer (some ⟨lg, 0, none⟩)] w (New1End64 b up p lg w) := by
  have HL := Lib.hid (bLayout64 w γ id p b hb)
  have hsi : InM M64 (cutM M64 b.l.c.start) := cutM_in64 _
  have HST := Lib.hid (fun W (hW : Below w.heap.size w W) => cstart Bk b.l.c up hun hok hst hll W (fun x hx => Nat.lt_of_lt_of_le (hB x hx) hW.size) (hU.below hW hB))
  rw [hw] at HST
  have HOF := Lib.hid (fun W => of64 (cutM M64 b.l.c.start) (inM_u64_64 hsi) W)
  rw [cut_id64 hsi] at HOF
  have HEN := Lib.hid (fun W (hW : Below w.heap.size w W) => gateEnds Bk b.l hbd hce up hun (by have h := hok.up; exact code_of_upOk h) hll W (fun x hx => Nat.lt_of_lt_of_le (hB x hx) hW.size) (hU.below hW hB) (Nat.lt_of_lt_of_le hg hW.size) (hT.below hW hg))
  unfold New1End64
  obtain ⟨l, bcells, data, log⟩ := b
  obtain ⟨⟨variant, width, cap, producers, start, ua, un, uc⟩, cursor, claim, ticket, serving, next, marks, slots, cells⟩ := l
  simp only at *
  unfold Lay.vs at HL HEN
  unfold Cf.vs at HST
  subst hv
  generalize hsv : cutM M64 start = sv at *
  clear hb hun hok hst hll hbd hce hw hB hU hg hT hsi hsv
  go_enter Tryd.func51, Tryd.ntmps51
  go_wp2_with (first
    | (go_at_call 124; refine HL.out.mono ?_; rintro e w1 ⟨rfl, hb1⟩; have HB1 := Lib.hid hb1; clear hb1; have HK := Lib.hid (Blk.new w1 30 #[.int .i64 1, .int .i64 width, .int .i64 cap, .int .i64 producers, .int .u64 start, .slice ua un uc, .int .i64 cursor, .int .i64 claim, .int .i64 ticket, .int .i64 serving, .int .i64 next, .int .i64 marks, .int .i64 slots, .int .i64 cells]))
    | (go_at_call 115; refine (HST.out _ (HB1.out.alloc HB1.out.size _)).mono ?_; rintro e w2 ⟨rfl, hb2⟩; have HK2 := Lib.hid (HK.out.below hb2 (by simp)); obtain ⟨q0, q1, q2, q3, q4, q5, q6, q7, q8, q9, q10, q11, q12, q13⟩ := blk_cells14 (HK.out.below hb2 (by simp)); have hz2 : w1.heap.size < w2.heap.size := Nat.lt_of_lt_of_le (by simp) hb2.size; have HB2 := Lib.hid ((HB1.out.alloc HB1.out.size _).trans (hb2.mono (Nat.le_trans HB1.out.size (by simp)))); clear hb2)
    | (go_at_call 107; refine (HOF.out _).mono ?_; rintro e w' ⟨rfl, rfl⟩))
  go_region_held3 (fun w' => w'.cell? ⟨w1.heap.size, 0, none⟩ = some (.int .i64 1) ∧ w'.cell? ⟨w1.heap.size, 1, none⟩ = some (.int .i64 width) ∧ w'.cell? ⟨w1.heap.size, 2, none⟩ = some (.int .i64 cap) ∧ w'.cell? ⟨w1.heap.size, 3, none⟩ = some (.int .i64 producers) ∧ w'.cell? ⟨w1.heap.size, 4, none⟩ = some (.int .u64 start) ∧ w'.cell? ⟨w1.heap.size, 5, none⟩ = some (.slice ua un uc) ∧ w'.cell? ⟨w1.heap.size, 6, none⟩ = some (.int .i64 cursor) ∧ w'.cell? ⟨w1.heap.size, 7, none⟩ = some (.int .i64 claim) ∧ w'.cell? ⟨w1.heap.size, 8, none⟩ = some (.int .i64 ticket) ∧ w'.cell? ⟨w1.heap.size, 9, none⟩ = some (.int .i64 serving) ∧ w'.cell? ⟨w1.heap.size, 10, none⟩ = some (.int .i64 next) ∧ w'.cell? ⟨w1.heap.size, 11, none⟩ = some (.int .i64 marks) ∧ w'.cell? ⟨w1.heap.size, 12, none⟩ = some (.int .i64 slots) ∧ w'.cell? ⟨w1.heap.size, 13, none⟩ = some (.int .i64 cells)) (go_keep) (first
    | (go_at_call 33; refine (HEN.out _ (HB2.out.trans (Below.mono (show Below w2.heap.size w2 _ from (by (repeat (with_reducible first | exact Below.refl _ _ | refine Below.drew ?_ | refine below_drewN ?_ _ | refine Below.setCell ?_ ?_ _ | refine Below.alloc ?_ ?_ _)); all_goals first | omega | (dsimp only; omega) | (simp; omega))) HB2.out.size))).mono ?_; rintro e w3 ⟨v, rfl, hown, hb3⟩; obtain ⟨A3, c3, rfl, _⟩ := own_form hown; have hb3' : Below w2.heap.size w2 w3 := ⟨hb3.os, hb3.tape, hb3.output, hb3.size, hb3.block⟩; have HO3 := Lib.hid (And.intro hown hb3'); have hz3 : w1.heap.size < w3.heap.size := Nat.lt_of_lt_of_le hz2 hb3'.size; obtain ⟨s0, s1, s2, s3, s4, s5, s6, s7, s8, s9, s10, s11, s12, s13⟩ := blk_cells14 (HK2.out.below hb3' hz2); clear hown hb3 hb3'))
  go_wp2_with fail
  go_ret
  have h3 := HB2.out.trans (HO3.out.2.mono HB2.out.size)
  refine ⟨w3.heap.size, A3, c3, rfl, h3.alloc h3.size _, h3.size, fun γ id => ⟨Blk.new _ _ _, ?_, (own_base HO3.out.1 (Nat.zero_le _)).alloc _, fun g hg => ?_⟩⟩
  · unfold Lab; rw [if_neg (by have := h3.size; omega)]
  · have h4 : w2.heap.size ≤ g := (HO3.out.1.lt g hg).1
    unfold Lab; rw [if_neg (by have := HB2.out.size; omega)]
end Go.Proofs.YtnkmlopjinihiaaDoor
