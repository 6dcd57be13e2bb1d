/- sakialaw12.BoardNone returns true for every input, and changes nothing. -/
import Derived.Test.YthnmpndofkgppaaBoardNone
import Derived.Test.YthnmpndofkgppaaOpen
import Derived.Test.YthnmpndofkgppaaRows
namespace Go.Proofs.Ythnmpndofkgppaa
open Go.RowKit
set_option linter.unusedVariables false
set_option maxHeartbeats 400000

namespace lawBoardNone
open Go.ChangeShapes Go.WideShapes Go.ChangeAt Go.RowKit
theorem own : ownKnob Try.prog.godebug = none := by kernel_rfl
theorem laidOut : laidOutB Try.prog = true := by kernel_rfl
set_option maxRecDepth 100000 in
theorem lifted (os : Os) (started : os.Started) (H : Type) (enc : TypeId × Value → H) :
    ReturnsInHanded {} Try.checked os 4 .any (Rows.boardNoneSpec.pre6 enc Try.prog Try.f4 Rows.boardNoneRow.domain false) (Rows.boardNoneSpec.post enc Try.prog Try.f4 false true false false) := by
  refine returnsInHanded_of_change (C := Try.checked) own started (by kernel_rfl) Try.func4
    (ChangeSpec.witness6 (enc := enc) (C := Try.checked) false ⟨#[], #[.agg #[.int .i64 0, .int .i64 0, .int .i64 0, .int .i64 0, .int .u64 0, .int .u64 0]], []⟩ 8 (by kernel_rfl) (by kernel_rfl) (by kernel_rfl) (by kernel_rfl)) ?_
  intro W base args ds gs before hval0 hW hcnd _
  have hval : ∀ (j : Nat) t v, Try.f4.params[j]? = some t → args[j]? = some v → Value.okWide Try.prog W .any base t v := hval0
  have hW' := hW
  obtain ⟨p, q, hA0, hV, rfl, hfz, hnd⟩ := hW
  have hA : DataW.TrodAll enc Try.prog W 0 (fun _ => true) true Try.f4.params.toList args.toList ds p := hA0
  rw [Try.params4] at hA hval
  obtain ⟨v0, vs0, d0, ds0, p0, q0, hargs, rfl, rfl, h0, r0⟩ := trodAll_cons hA
  obtain ⟨rfl, rfl, rfl⟩ := trodAll_nil r0
  obtain rfl : args = #[v0] := by cases args; simp_all
  obtain ⟨rfl, rfl⟩ := trodVars_none hV
  have k0 := h0
  have lt0 : ∀ x ∈ p0, x.block < W.heap.size := by obtain ⟨m, hm⟩ := k0; exact DataW.trod_lt m _ _ _ hm
  obtain ⟨x0_0, x1_0, x2_0, x3_0, x4_0, x5_0, y0, y1, y2, y3, y4, y5, ny, rfl, g0, g1, g2, g3, g4, g5⟩ := open_agg6 Try.underlying49 (by kernel_rfl) (by kernel_rfl) (hval 0 49 v0 rfl rfl) h0
  obtain ⟨z0, e0, _, i0⟩ := DataW.trod_int Try.underlying3 g0
  obtain ⟨z1, e1, _, i1⟩ := DataW.trod_int Try.underlying3 g1
  obtain ⟨z2, e2, _, i2⟩ := DataW.trod_int Try.underlying3 g2
  obtain ⟨z3, e3, _, i3⟩ := DataW.trod_int Try.underlying3 g3
  obtain ⟨z4, e4, _, i4⟩ := DataW.trod_int Try.underlying22 g4
  obtain ⟨z5, e5, _, i5⟩ := DataW.trod_int Try.underlying22 g5
  simp at e0 e1 e2 e3 e4 e5
  subst e0 e1 e2 e3 e4 e5
  clear hA0 hval0
  refine (boardNone_any z0 z1 z2 z3 z4 z5 W).mono fun e W' ⟨he, bel⟩ => ?_
  subst he
  exact ⟨_, rfl, _, _, _, [], _, [], hW', trodAll_mk1 (shut_bool Try.underlying4 _), (trodAll_cons_mk (Below.trod laidOut (by kernel_rfl) (of_decide_eq_true (by kernel_rfl)) k0 bel lt0) trodAll_mk0), rfl, bel.frame _, fun h => by cases h⟩

theorem over : Rows.boardNoneRow.holds Try.pinned (OpenSpec.ofChange Rows.boardNoneSpec) :=
  OpenClaim.holds_of_wide 4 Try.f4 rfl rfl rfl rfl rfl rfl rfl ⟨rfl, rfl, rfl, rfl, rfl⟩ rfl rfl rfl rfl rfl (by kernel_rfl) Try.func4 (by kernel_rfl)
    (of_decide_eq_true (by kernel_rfl)) (by unfold Func.isWrapper; rw [if_neg (by decide +kernel)]; exact ⟨rfl, rfl⟩)
    (fun os started H enc _ => lifted os started H enc)
end lawBoardNone
/-- THE STATEMENT. -/
theorem boardNone_holds : Rows.BoardNoneSaid := lawBoardNone.over
#print axioms boardNone_holds
end Go.Proofs.Ythnmpndofkgppaa
