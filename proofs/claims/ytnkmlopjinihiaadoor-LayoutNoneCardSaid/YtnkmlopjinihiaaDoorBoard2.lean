/- Contracts of the board's methods that turn nothing, and of a slot's data, for both widths. -/
import Derived.Test.YtnkmlopjinihiaaDoorBoard
namespace Go.Proofs.YtnkmlopjinihiaaDoor
open Go.RowKit
set_option linter.unusedVariables false
set_option linter.unusedSimpArgs false
set_option maxHeartbeats 2000000

theorem bLayout32 (w : World) (γ : Nat → Nat) (id p : Nat) (b : BS) (h : BoardAt 132 48 208 .u32 w γ id p b) :
    Calls Tryd.prog 131 #[.pointer (some ⟨p, 0, none⟩)] w fun e w' => e = .returned (.agg b.l.vs.toArray) ∧ Below w.heap.size w w' := by
  obtain ⟨cv, dv, lv, hF⟩ := h
  have hbrd := hF.brd
  obtain ⟨l, cells, data, log⟩ := b
  dsimp only at hbrd ⊢
  clear hF
  obtain ⟨⟨variant, width, cap, producers, start, ua, un, uc⟩, cursor, claim, ticket, serving, next, marks, slots, cells'⟩ := l
  unfold Lay.vs at hbrd ⊢
  obtain ⟨q0, q1, q2, q3, q4, q5, q6, q7, q8, q9, q10, q11, q12, q13, q14, q15, q16⟩ := blk_cells17 hbrd
  have hpl := hbrd.lt
  clear q14 q15 q16 hbrd
  go_enter Tryd.func131, Tryd.ntmps131
  go_wp2_with fail
  refine bodyPost_ret (v := .agg #[.int .i64 variant, .int .i64 width, .int .i64 cap, .int .i64 producers, .int .u64 start, .slice ua un uc, .int .i64 cursor, .int .i64 claim, .int .i64 ticket, .int .i64 serving, .int .i64 next, .int .i64 marks, .int .i64 slots, .int .i64 cells']) ?_ rfl ?_
  · simp only [results, Tryd.results131]
    go_simp
  · refine ⟨rfl, ?_⟩
    repeat (with_reducible first | exact Below.refl _ _ | refine Below.setCell ?_ ?_ _ | refine Below.alloc ?_ ?_ _)
    all_goals (simp; try omega)
theorem bLayoutN32 (w : World) :
    Calls Tryd.prog 131 #[.pointer none] w fun e w' => e = .returned (.agg (Lay.vs ⟨⟨0, 0, 0, 0, 0, none, 0, 0⟩, 0, 0, 0, 0, 0, 0, 0, 0⟩).toArray) ∧ Below w.heap.size w w' := by
  go_enter Tryd.func131, Tryd.ntmps131
  go_wp2_with fail
  refine bodyPost_ret (v := .agg #[.int .i64 0, .int .i64 0, .int .i64 0, .int .i64 0, .int .u64 0, .slice none 0 0, .int .i64 0, .int .i64 0, .int .i64 0, .int .i64 0, .int .i64 0, .int .i64 0, .int .i64 0, .int .i64 0]) ?_ rfl ?_
  · simp only [results, Tryd.results131]
    go_simp
  · refine ⟨rfl, ?_⟩
    repeat (with_reducible first | exact Below.refl _ _ | refine Below.setCell ?_ ?_ _ | refine Below.alloc ?_ ?_ _)
    all_goals (simp; try omega)
theorem bLen32 (w : World) (γ : Nat → Nat) (id p : Nat) (b : BS) (h : BoardAt 132 48 208 .u32 w γ id p b) :
    Calls Tryd.prog 62 #[.pointer (some ⟨p, 0, none⟩)] w fun e w' => e = .returned (.int .i64 b.log.length) ∧ w = w' := by
  obtain ⟨cv, dv, lv, hF⟩ := h
  have hq : w.cell? ⟨p, 16, none⟩ = some lv := hF.brd.cell 16
  obtain ⟨A, c, rfl, _⟩ := own_form hF.log.1
  clear hF
  go_enter Tryd.func62, Tryd.ntmps62
  go_wp2_with fail
  go_ret
  exact ⟨rfl, rfl⟩
theorem bPeek32 (w : World) (γ : Nat → Nat) (id p : Nat) (b : BS) (h : BoardAt 132 48 208 .u32 w γ id p b) (hok : b.Ok M32) (k : Int) (hk : b.l.kind k = 1 ∨ b.l.kind k = 2) :
    Calls Tryd.prog 36 #[.pointer (some ⟨p, 0, none⟩), .int .i64 k] w fun e w' => e = .returned (.int .u64 (b.at_ k)) ∧ Below w.heap.size w w' := by
  obtain ⟨n, rfl, hn, hin⟩ := hok.cell hk
  have hH := h
  obtain ⟨cv, dv, lv, hF⟩ := h
  have hbrd := hF.brd
  have HK := Lib.hid (lkind b.l n)
  have hk0 : ¬ b.l.kind (n : Int) = 0 := by rcases hk with h1 | h1 <;> rw [h1] <;> decide
  have hx : b.cells.getD n 0 = b.at_ n := by simp [BS.at_]
  have HH := Lib.hid hH
  have HN := Lib.hid hn
  have HIN := Lib.hid hin
  have HX := Lib.hid hx
  have hkl : (n : Int) < b.cells.length := by omega
  clear hF hok hH hx hin hk
  generalize hkk : b.l.kind (n : Int) = kk at *
  clear hkk
  have hvs : b.l.vs = Lay.vs ⟨⟨b.l.c.variant, b.l.c.width, b.l.c.cap, b.l.c.producers, b.l.c.start, b.l.c.ua, b.l.c.un, b.l.c.uc⟩, b.l.cursor, b.l.claim, b.l.ticket, b.l.serving, b.l.next, b.l.marks, b.l.slots, b.l.cells⟩ := rfl
  rw [hvs] at hbrd HK
  unfold Lay.vs at hbrd HK
  obtain ⟨q0, q1, q2, q3, q4, q5, q6, q7, q8, q9, q10, q11, q12, q13, q14, q15, q16⟩ := blk_cells17 hbrd
  clear q14 q15 q16 hbrd
  go_enter Tryd.func36, Tryd.ntmps36
  go_wp2_with (first
    | (go_at_call 45; refine (HK.out _).mono ?_; rintro e w1 ⟨rfl, hb1⟩
       obtain ⟨cv2, dv2, lv2, hF⟩ := HH.out.below hb1
       have hq : w1.cell? ⟨p, 14, none⟩ = some cv2 := hF.brd.cell 14
       obtain ⟨g, cap, rfl, hgl, hgc, _⟩ := row_at hF.cel.1 HN.out
       rw [HX.out] at hgc
       have HB1 := Lib.hid hb1
       clear hb1 hF)
    | (go_at_call 103; refine (up32 _ HIN.out _).mono ?_; rintro e w' ⟨rfl, rfl⟩))
  go_ret
  exact ⟨rfl, HB1.out⟩
theorem bLayout64 (w : World) (γ : Nat → Nat) (id p : Nat) (b : BS) (h : BoardAt 142 22 208 .u64 w γ id p b) :
    Calls Tryd.prog 124 #[.pointer (some ⟨p, 0, none⟩)] w fun e w' => e = .returned (.agg b.l.vs.toArray) ∧ Below w.heap.size w w' := by
  obtain ⟨cv, dv, lv, hF⟩ := h
  have hbrd := hF.brd
  obtain ⟨l, cells, data, log⟩ := b
  dsimp only at hbrd ⊢
  clear hF
  obtain ⟨⟨variant, width, cap, producers, start, ua, un, uc⟩, cursor, claim, ticket, serving, next, marks, slots, cells'⟩ := l
  unfold Lay.vs at hbrd ⊢
  obtain ⟨q0, q1, q2, q3, q4, q5, q6, q7, q8, q9, q10, q11, q12, q13, q14, q15, q16⟩ := blk_cells17 hbrd
  have hpl := hbrd.lt
  clear q14 q15 q16 hbrd
  go_enter Tryd.func124, Tryd.ntmps124
  go_wp2_with fail
  refine bodyPost_ret (v := .agg #[.int .i64 variant, .int .i64 width, .int .i64 cap, .int .i64 producers, .int .u64 start, .slice ua un uc, .int .i64 cursor, .int .i64 claim, .int .i64 ticket, .int .i64 serving, .int .i64 next, .int .i64 marks, .int .i64 slots, .int .i64 cells']) ?_ rfl ?_
  · simp only [results, Tryd.results124]
    go_simp
  · refine ⟨rfl, ?_⟩
    repeat (with_reducible first | exact Below.refl _ _ | refine Below.setCell ?_ ?_ _ | refine Below.alloc ?_ ?_ _)
    all_goals (simp; try omega)
theorem bLayoutN64 (w : World) :
    Calls Tryd.prog 124 #[.pointer none] w fun e w' => e = .returned (.agg (Lay.vs ⟨⟨0, 0, 0, 0, 0, none, 0, 0⟩, 0, 0, 0, 0, 0, 0, 0, 0⟩).toArray) ∧ Below w.heap.size w w' := by
  go_enter Tryd.func124, Tryd.ntmps124
  go_wp2_with fail
  refine bodyPost_ret (v := .agg #[.int .i64 0, .int .i64 0, .int .i64 0, .int .i64 0, .int .u64 0, .slice none 0 0, .int .i64 0, .int .i64 0, .int .i64 0, .int .i64 0, .int .i64 0, .int .i64 0, .int .i64 0, .int .i64 0]) ?_ rfl ?_
  · simp only [results, Tryd.results124]
    go_simp
  · refine ⟨rfl, ?_⟩
    repeat (with_reducible first | exact Below.refl _ _ | refine Below.setCell ?_ ?_ _ | refine Below.alloc ?_ ?_ _)
    all_goals (simp; try omega)
theorem bLen64 (w : World) (γ : Nat → Nat) (id p : Nat) (b : BS) (h : BoardAt 142 22 208 .u64 w γ id p b) :
    Calls Tryd.prog 41 #[.pointer (some ⟨p, 0, none⟩)] w fun e w' => e = .returned (.int .i64 b.log.length) ∧ w = w' := by
  obtain ⟨cv, dv, lv, hF⟩ := h
  have hq : w.cell? ⟨p, 16, none⟩ = some lv := hF.brd.cell 16
  obtain ⟨A, c, rfl, _⟩ := own_form hF.log.1
  clear hF
  go_enter Tryd.func41, Tryd.ntmps41
  go_wp2_with fail
  go_ret
  exact ⟨rfl, rfl⟩
theorem bPeek64 (w : World) (γ : Nat → Nat) (id p : Nat) (b : BS) (h : BoardAt 142 22 208 .u64 w γ id p b) (hok : b.Ok M64) (k : Int) (hk : b.l.kind k = 1 ∨ b.l.kind k = 2) :
    Calls Tryd.prog 110 #[.pointer (some ⟨p, 0, none⟩), .int .i64 k] w fun e w' => e = .returned (.int .u64 (b.at_ k)) ∧ Below w.heap.size w w' := by
  obtain ⟨n, rfl, hn, hin⟩ := hok.cell hk
  have hH := h
  obtain ⟨cv, dv, lv, hF⟩ := h
  have hbrd := hF.brd
  have HK := Lib.hid (lkind b.l n)
  have hk0 : ¬ b.l.kind (n : Int) = 0 := by rcases hk with h1 | h1 <;> rw [h1] <;> decide
  have hx : b.cells.getD n 0 = b.at_ n := by simp [BS.at_]
  have HH := Lib.hid hH
  have HN := Lib.hid hn
  have HIN := Lib.hid hin
  have HX := Lib.hid hx
  have hkl : (n : Int) < b.cells.length := by omega
  clear hF hok hH hx hin hk
  generalize hkk : b.l.kind (n : Int) = kk at *
  clear hkk
  have hvs : b.l.vs = Lay.vs ⟨⟨b.l.c.variant, b.l.c.width, b.l.c.cap, b.l.c.producers, b.l.c.start, b.l.c.ua, b.l.c.un, b.l.c.uc⟩, b.l.cursor, b.l.claim, b.l.ticket, b.l.serving, b.l.next, b.l.marks, b.l.slots, b.l.cells⟩ := rfl
  rw [hvs] at hbrd HK
  unfold Lay.vs at hbrd HK
  obtain ⟨q0, q1, q2, q3, q4, q5, q6, q7, q8, q9, q10, q11, q12, q13, q14, q15, q16⟩ := blk_cells17 hbrd
  clear q14 q15 q16 hbrd
  go_enter Tryd.func110, Tryd.ntmps110
  go_wp2_with (first
    | (go_at_call 45; refine (HK.out _).mono ?_; rintro e w1 ⟨rfl, hb1⟩
       obtain ⟨cv2, dv2, lv2, hF⟩ := HH.out.below hb1
       have hq : w1.cell? ⟨p, 14, none⟩ = some cv2 := hF.brd.cell 14
       obtain ⟨g, cap, rfl, hgl, hgc, _⟩ := row_at hF.cel.1 HN.out
       rw [HX.out] at hgc
       have HB1 := Lib.hid hb1
       clear hb1 hF)
    | (go_at_call 128; refine (up64 _ HIN.out _).mono ?_; rintro e w' ⟨rfl, rfl⟩))
  go_ret
  exact ⟨rfl, HB1.out⟩
end Go.Proofs.YtnkmlopjinihiaaDoor
