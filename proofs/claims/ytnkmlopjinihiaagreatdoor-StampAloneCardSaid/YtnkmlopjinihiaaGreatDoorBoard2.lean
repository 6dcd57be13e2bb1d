/- Contracts of the board's methods that turn nothing, and of a slot's data, for both widths. -/
import Derived.Test.YtnkmlopjinihiaaGreatDoorBoard
namespace Go.Proofs.YtnkmlopjinihiaaGreatDoor
open Go.RowKit
set_option linter.unusedVariables false
set_option linter.unusedSimpArgs false
set_option maxHeartbeats 2000000

theorem bLayout32 (w : World) (γ : Nat → Nat) (id p : Nat) (b : BS) (h : BoardAt 119 67 175 .u32 w γ id p b) :
    Calls Tryz.prog 90 #[.pointer (some ⟨p, 0, none⟩)] w fun e w' => e = .returned (.agg b.l.vs.toArray) ∧ Below w.heap.size w w' := by
  obtain ⟨cv, dv, lv, hF⟩ := h
  have hbrd := hF.brd
  obtain ⟨l, cells, data, log⟩ := b
  dsimp only at hbrd ⊢
  clear hF
  obtain ⟨⟨variant, width, cap, producers, start, ua, un, uc⟩, cursor, claim, ticket, serving, next, marks, slots, cells'⟩ := l
  unfold Lay.vs at hbrd ⊢
  obtain ⟨q0, q1, q2, q3, q4, q5, q6, q7, q8, q9, q10, q11, q12, q13, q14, q15, q16⟩ := blk_cells17 hbrd
  have hpl := hbrd.lt
  clear q14 q15 q16 hbrd
  go_enter Tryz.func90, Tryz.ntmps90
  go_wp2_with fail
  refine bodyPost_ret (v := .agg #[.int .i64 variant, .int .i64 width, .int .i64 cap, .int .i64 producers, .int .u64 start, .slice ua un uc, .int .i64 cursor, .int .i64 claim, .int .i64 ticket, .int .i64 serving, .int .i64 next, .int .i64 marks, .int .i64 slots, .int .i64 cells']) ?_ rfl ?_
  · simp only [results, Tryz.results90]
    go_simp
  · refine ⟨rfl, ?_⟩
    repeat (with_reducible first | exact Below.refl _ _ | refine Below.setCell ?_ ?_ _ | refine Below.alloc ?_ ?_ _)
    all_goals (simp; try omega)
theorem bLayoutN32 (w : World) :
    Calls Tryz.prog 90 #[.pointer none] w fun e w' => e = .returned (.agg (Lay.vs ⟨⟨0, 0, 0, 0, 0, none, 0, 0⟩, 0, 0, 0, 0, 0, 0, 0, 0⟩).toArray) ∧ Below w.heap.size w w' := by
  go_enter Tryz.func90, Tryz.ntmps90
  go_wp2_with fail
  refine bodyPost_ret (v := .agg #[.int .i64 0, .int .i64 0, .int .i64 0, .int .i64 0, .int .u64 0, .slice none 0 0, .int .i64 0, .int .i64 0, .int .i64 0, .int .i64 0, .int .i64 0, .int .i64 0, .int .i64 0, .int .i64 0]) ?_ rfl ?_
  · simp only [results, Tryz.results90]
    go_simp
  · refine ⟨rfl, ?_⟩
    repeat (with_reducible first | exact Below.refl _ _ | refine Below.setCell ?_ ?_ _ | refine Below.alloc ?_ ?_ _)
    all_goals (simp; try omega)
theorem bLayout64 (w : World) (γ : Nat → Nat) (id p : Nat) (b : BS) (h : BoardAt 80 22 175 .u64 w γ id p b) :
    Calls Tryz.prog 47 #[.pointer (some ⟨p, 0, none⟩)] w fun e w' => e = .returned (.agg b.l.vs.toArray) ∧ Below w.heap.size w w' := by
  obtain ⟨cv, dv, lv, hF⟩ := h
  have hbrd := hF.brd
  obtain ⟨l, cells, data, log⟩ := b
  dsimp only at hbrd ⊢
  clear hF
  obtain ⟨⟨variant, width, cap, producers, start, ua, un, uc⟩, cursor, claim, ticket, serving, next, marks, slots, cells'⟩ := l
  unfold Lay.vs at hbrd ⊢
  obtain ⟨q0, q1, q2, q3, q4, q5, q6, q7, q8, q9, q10, q11, q12, q13, q14, q15, q16⟩ := blk_cells17 hbrd
  have hpl := hbrd.lt
  clear q14 q15 q16 hbrd
  go_enter Tryz.func47, Tryz.ntmps47
  go_wp2_with fail
  refine bodyPost_ret (v := .agg #[.int .i64 variant, .int .i64 width, .int .i64 cap, .int .i64 producers, .int .u64 start, .slice ua un uc, .int .i64 cursor, .int .i64 claim, .int .i64 ticket, .int .i64 serving, .int .i64 next, .int .i64 marks, .int .i64 slots, .int .i64 cells']) ?_ rfl ?_
  · simp only [results, Tryz.results47]
    go_simp
  · refine ⟨rfl, ?_⟩
    repeat (with_reducible first | exact Below.refl _ _ | refine Below.setCell ?_ ?_ _ | refine Below.alloc ?_ ?_ _)
    all_goals (simp; try omega)
theorem bLayoutN64 (w : World) :
    Calls Tryz.prog 47 #[.pointer none] w fun e w' => e = .returned (.agg (Lay.vs ⟨⟨0, 0, 0, 0, 0, none, 0, 0⟩, 0, 0, 0, 0, 0, 0, 0, 0⟩).toArray) ∧ Below w.heap.size w w' := by
  go_enter Tryz.func47, Tryz.ntmps47
  go_wp2_with fail
  refine bodyPost_ret (v := .agg #[.int .i64 0, .int .i64 0, .int .i64 0, .int .i64 0, .int .u64 0, .slice none 0 0, .int .i64 0, .int .i64 0, .int .i64 0, .int .i64 0, .int .i64 0, .int .i64 0, .int .i64 0, .int .i64 0]) ?_ rfl ?_
  · simp only [results, Tryz.results47]
    go_simp
  · refine ⟨rfl, ?_⟩
    repeat (with_reducible first | exact Below.refl _ _ | refine Below.setCell ?_ ?_ _ | refine Below.alloc ?_ ?_ _)
    all_goals (simp; try omega)
end Go.Proofs.YtnkmlopjinihiaaGreatDoor
