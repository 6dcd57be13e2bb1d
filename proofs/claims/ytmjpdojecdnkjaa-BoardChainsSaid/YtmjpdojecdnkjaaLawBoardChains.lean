/- sakialaw12.BoardChains returns true for every input, and changes nothing. -/
import Derived.Test.YtmjpdojecdnkjaaBoardChains
import Derived.Test.YtmjpdojecdnkjaaOpenD
import Derived.Test.YtmjpdojecdnkjaaRows
namespace Go.Proofs.Ytmjpdojecdnkjaa
open Go.RowKit
set_option linter.unusedVariables false
set_option maxHeartbeats 400000

namespace lawBoardChains
open Go.ChangeShapes Go.WideShapes Go.ChangeAt Go.RowKit
theorem own : ownKnob Try.prog.godebug = none := by kernel_rfl
theorem laidOut : laidOutB Try.prog = true := by kernel_rfl
set_option maxRecDepth 100000 in
theorem lifted (os : Os) (started : os.Started) (H : Type) (enc : TypeId × Value → H) :
    ReturnsInHanded {} Try.checked os 9 .any (Rows.boardChainsSpec.pre6 enc Try.prog Try.f9 Rows.boardChainsRow.domain false) (Rows.boardChainsSpec.post enc Try.prog Try.f9 false true false false) := by
  refine returnsInHanded_of_change (C := Try.checked) own started (by kernel_rfl) Try.func9
    (ChangeSpec.witness6 (enc := enc) (C := Try.checked) false ⟨#[], #[.agg #[.int .i64 0, .int .i64 0, .int .i64 0, .int .i64 0, .int .u64 0, .slice none 0 0], .slice none 0 0], []⟩ 8 (by kernel_rfl) (by kernel_rfl) (by kernel_rfl) (by kernel_rfl)) ?_
  intro W base args ds gs before hval0 hW hcnd _
  have hval : ∀ (j : Nat) t v, Try.f9.params[j]? = some t → args[j]? = some v → Value.okWide Try.prog W .any base t v := hval0
  have hW' := hW
  obtain ⟨p, q, hA0, hV, rfl, hfz, hnd⟩ := hW
  have hA : DataW.TrodAll enc Try.prog W 0 (fun _ => true) true Try.f9.params.toList args.toList ds p := hA0
  rw [Try.params9] at hA hval
  obtain ⟨v0, vs0, d0, ds0, p0, q0, hargs, rfl, rfl, h0, r0⟩ := trodAll_cons hA
  obtain ⟨v1, vs1, d1, ds1, p1, q1, rfl, rfl, rfl, h1, r1⟩ := trodAll_cons r0
  obtain ⟨rfl, rfl, rfl⟩ := trodAll_nil r1
  obtain rfl : args = #[v0, v1] := by cases args; simp_all
  obtain ⟨rfl, rfl⟩ := trodVars_none hV
  have k0 := h0
  have lt0 : ∀ x ∈ p0, x.block < W.heap.size := by obtain ⟨m, hm⟩ := k0; exact DataW.trod_lt m _ _ _ hm
  obtain ⟨c0, up0, H0⟩ := open_conf (hval 0 51 v0 rfl rfl) h0
  have hv0 := H0.val
  subst hv0
  have k1 := h1
  have lt1 : ∀ x ∈ p1, x.block < W.heap.size := by obtain ⟨m, hm⟩ := k1; exact DataW.trod_lt m _ _ _ hm
  obtain ⟨A1, rs1, cap1, rfl, hk1, hw1, hl1⟩ := open_dos (ks := [.i64, .i64, .i64, .i64, .u64, .u64]) Try.underlying78 Try.underlying82 (by kernel_rfl) (by kernel_rfl) (by intro j k hj; match j, hj with | 0, hj => exact ⟨_, rfl, by rw [← Option.some.inj hj]; exact Try.underlying3⟩ | 1, hj => exact ⟨_, rfl, by rw [← Option.some.inj hj]; exact Try.underlying3⟩ | 2, hj => exact ⟨_, rfl, by rw [← Option.some.inj hj]; exact Try.underlying3⟩ | 3, hj => exact ⟨_, rfl, by rw [← Option.some.inj hj]; exact Try.underlying3⟩ | 4, hj => exact ⟨_, rfl, by rw [← Option.some.inj hj]; exact Try.underlying22⟩ | 5, hj => exact ⟨_, rfl, by rw [← Option.some.inj hj]; exact Try.underlying22⟩ | _ + 6, hj => exact absurd hj (by simp)) (by decide) (hval 1 78 v1 rfl rfl) h1
  clear hA0 hval0
  refine (boardChains_any W c0 up0 H0.un H0.upA H0.len H0.ll H0.b4 A1 rs1 cap1 hk1 hw1).mono fun e W' ⟨he, bel⟩ => ?_
  subst he
  exact ⟨_, rfl, _, _, _, [], _, [], hW', trodAll_mk1 (shut_bool Try.underlying4 _), (trodAll_cons_mk (Below.trod laidOut (by kernel_rfl) (of_decide_eq_true (by kernel_rfl)) k0 bel lt0) (trodAll_cons_mk (Below.trod laidOut (by kernel_rfl) (of_decide_eq_true (by kernel_rfl)) k1 bel lt1) trodAll_mk0)), rfl, bel.frame _, fun h => by cases h⟩

theorem over : Rows.boardChainsRow.holds Try.pinned (OpenSpec.ofChange Rows.boardChainsSpec) :=
  OpenClaim.holds_of_wide 9 Try.f9 rfl rfl rfl rfl rfl rfl rfl ⟨rfl, rfl, rfl, rfl, rfl⟩ rfl rfl rfl rfl rfl (by kernel_rfl) Try.func9 (by kernel_rfl)
    (of_decide_eq_true (by kernel_rfl)) (by unfold Func.isWrapper; rw [if_neg (by decide +kernel)]; exact ⟨rfl, rfl⟩)
    (fun os started H enc _ => lifted os started H enc)
end lawBoardChains
/-- THE STATEMENT. -/
theorem boardChains_holds : Rows.BoardChainsSaid := lawBoardChains.over
#print axioms boardChains_holds
end Go.Proofs.Ytmjpdojecdnkjaa
