/- sakialaw22.StampAlone returns true for every input, and changes nothing; the card ties the listed package variable to the program's text. -/
import Derived.Test.YtnkmlopjinihiaaGreatDoorAlone22
import Derived.Test.YtnkmlopjinihiaaGreatDoorOpenC
import Derived.Test.YtnkmlopjinihiaaGreatDoorRows
import Derived.Test.YtnkmlopjinihiaaGreatDoorCards
import Derived.Test.YtnkmlopjinihiaaGreatDoorTie
import Derived.ProofKit
import Derived.OpenShut
import Derived.ShutString
import Derived.ChangeOld
import Derived.Below
import Derived.Lib.SmallJoins
import Derived.LaidMore
import Derived.Stop.Joined
import Derived.SevenTiedAt
import Derived.ChangeMaps5
namespace Go.Proofs.YtnkmlopjinihiaaGreatDoor
open Go Go.RowKit
set_option linter.unusedVariables false
set_option maxHeartbeats 400000
set_option maxRecDepth 100000

namespace lawStampAlone
open Go.ChangeShapes Go.WideShapes Go.ChangeAt Go.RowKit
theorem own : ownKnob Tryz.prog.godebug = none := by kernel_rfl
theorem laidOut : laidOutB Tryz.prog = true := by kernel_rfl
theorem door_met (os : Os) (args : Array Value) : laidMetH Tryz.prog laidTab ((World.doorLaid Tryz.prog 400 os).forCall (fun _ _ => 0) ⟨#[], args, []⟩).memory :=
  laidMetH_of_parts3 (fuel := 80) (laidMet_of_run' 80 (by kernel_rfl) (by kernel_rfl)) (by kernel_rfl) (by kernel_rfl)
theorem lifted (os : Os) (started : os.Started) (H : Type) (enc : TypeId × Value → H) :
    ReturnsInHanded {} Tryz.checked os 3 .any (fun w args => (Rows.stampAloneSpec.pre enc Tryz.prog Tryz.f3 [] false w args ∧ laidMetH Tryz.prog laidTab w) ∧ sizedMet enc Tryz.prog Tryz.f3 (OpenSpec.ofChange Rows.stampAloneSpec) false w args)
      (Rows.stampAloneSpec.post enc Tryz.prog Tryz.f3 false true false false) := by
  refine returnsInHanded_of_change_and (C := Tryz.checked) (X := fun w _ => laidMetH Tryz.prog laidTab w) (fun _ _ _ hh h => h.of_heap hh) own started (by kernel_rfl) Tryz.func3
    (ChangeSpec.witness_shaped (enc := enc) (C := Tryz.checked) (os := os) (X := fun w _ => laidMetH Tryz.prog laidTab w) false (World.doorLaid Tryz.prog 400 os) #[.agg #[.bool false, .int .u8 0, .int .u8 0, .int .u8 0, .int .u64 0], .slice none 0 0] 8 rfl (World.shaped_of_RefB (by kernel_rfl) (by kernel_rfl)) (by kernel_rfl) (by kernel_rfl) (by kernel_rfl) (door_met os _)) ?_
  intro W base args ds gs before hval0 hW _ _ hL _
  have hval : ∀ (j : Nat) t v, Tryz.f3.params[j]? = some t → args[j]? = some v → Value.okWide Tryz.prog W .any base t v := hval0
  have hW' := hW
  obtain ⟨p, q, hA0, hV, rfl, hfz, hnd⟩ := hW
  have hA : DataW.TrodAll enc Tryz.prog W 0 (fun _ => true) true Tryz.f3.params.toList args.toList ds p := hA0
  rw [Tryz.params3] at hA hval
  obtain ⟨v0, vs0, d0, ds0, p0, q0, hargs, rfl, rfl, h0, r0⟩ := trodAll_cons hA
  obtain ⟨v1, vs1, d1, ds1, p1, q1, rfl, rfl, rfl, h1, r1⟩ := trodAll_cons r0
  obtain ⟨rfl, rfl, rfl⟩ := trodAll_nil r1
  obtain rfl : args = #[v0, v1] := by cases args; simp_all
  obtain ⟨rfl, rfl⟩ := trodVars_none hV
  have k0 := h0
  have lt0 : ∀ x ∈ p0, x.block < W.heap.size := by obtain ⟨m, hm⟩ := k0; exact DataW.trod_lt m _ _ _ hm
  obtain ⟨u00, u01, u02, u03, u04, y0, y1, y2, y3, y4, ny, rfl, g0, g1, g2, g3, g4⟩ := open_agg5 Tryz.underlying24 (by kernel_rfl) (by kernel_rfl) (hval 0 24 v0 rfl rfl) h0
  obtain ⟨wd0, e0, _⟩ := DataW.trod_bool Tryz.underlying4 g0
  obtain ⟨lg0, e1, _, i1⟩ := DataW.trod_int Tryz.underlying5 g1
  obtain ⟨pr0, e2, _, i2⟩ := DataW.trod_int Tryz.underlying5 g2
  obtain ⟨rt0, e3, _, i3⟩ := DataW.trod_int Tryz.underlying5 g3
  obtain ⟨st0, e4, _, i4⟩ := DataW.trod_int Tryz.underlying22 g4
  simp at e0 e1 e2 e3 e4
  subst e0 e1 e2 e3 e4
  have B1 := bounds_u8 i1
  have B2 := bounds_u8 i2
  have B3 := bounds_u8 i3
  have B4 := bounds_u64 i4
  have k1 := h1
  have lt1 : ∀ x ∈ p1, x.block < W.heap.size := by obtain ⟨m, hm⟩ := k1; exact DataW.trod_lt m _ _ _ hm
  obtain ⟨A1, xs1, cap1, rfl, hk1, hw1, hl1⟩ := open_kat Tryz.underlying25 Tryz.underlying5 (by kernel_rfl) (hval 1 25 v1 rfl rfl) h1
  have hTab := tab_of_laid hL
  clear hA0 hval0
  refine (stampAlone_any wd0 lg0 pr0 rt0 st0 (by omega) (by omega) (by omega) B4 A1 xs1 cap1 W hk1 (fun x hx => by have := bounds_u8 (hw1 x hx); omega) hTab.1 hTab.2).mono fun e W' ⟨he, bel⟩ => ?_
  subst he
  exact ⟨_, rfl, _, _, _, [], _, [], hW', trodAll_mk1 (shut_bool Tryz.underlying4 _), (trodAll_cons_mk (Below.trod laidOut (by kernel_rfl) (of_decide_eq_true (by kernel_rfl)) k0 bel lt0) (trodAll_cons_mk (Below.trod laidOut (by kernel_rfl) (of_decide_eq_true (by kernel_rfl)) k1 bel lt1) trodAll_mk0)), rfl, bel.frame _, fun h => by cases h⟩
theorem over : Rows.stampAloneRow.holds Tryz.pinned (OpenSpec.ofChange Rows.stampAloneSpec) :=
  OpenClaim.holds_of_wide 3 Tryz.f3 rfl rfl rfl rfl rfl rfl rfl ⟨rfl, rfl, rfl, rfl, rfl⟩ rfl rfl rfl rfl rfl (by kernel_rfl) Tryz.func3 (by kernel_rfl)
    (of_decide_eq_true (by kernel_rfl)) (by unfold Func.isWrapper; first | (rw [if_pos (by decide +kernel)]; kernel_rfl) | (rw [if_neg (by decide +kernel)]; exact ⟨rfl, rfl⟩))
    (fun os started H enc _ => lifted os started H enc)
theorem fits (f : FuncId) (fn : Func) (hf : Tryz.pinned.checked.prog.funcNamed "sakia/sakialaw22.StampAlone" = some f) (hfn : Tryz.pinned.checked.prog.funcs[f]? = some fn) : f = 3 ∧ fn = Tryz.f3 := by
  obtain rfl : f = 3 := Option.some.inj ((show Tryz.prog.funcNamed "sakia/sakialaw22.StampAlone" = some 3 by kernel_rfl).symm.trans hf) |>.symm
  exact ⟨rfl, (Option.some.inj (Tryz.func3.symm.trans hfn)).symm⟩
end lawStampAlone
/-- THE STATEMENT. -/
theorem stampAlone_holds : Rows.StampAloneCardSaid :=
  Claim7.holds_tied_plain_at .later [] [.data] true _ false
    lawStampAlone.over (fun _ h => by cases h) (by kernel_rfl) (fun _ h => by cases h) stampAlone_row_tie rfl ⟨rfl, rfl⟩ (by kernel_rfl) rfl
    (fun f fn hf hfn => by
      obtain ⟨rfl, rfl⟩ := lawStampAlone.fits f fn hf hfn
      exact ⟨by kernel_rfl, fun j t ht => by
        rw [Tryz.params3] at ht
        have hm : t ∈ [24, 25] := by simpa using Array.mem_of_getElem? ht
        have hall : ([24, 25].all fun u => !Tryz.prog.wantsStandIn u) = true := by kernel_rfl
        exact (show Tryz.prog.wantsStandIn t = false by simpa using List.all_eq_true.1 hall t hm)⟩)
    (by kernel_rfl)
#print axioms stampAlone_holds
end Go.Proofs.YtnkmlopjinihiaaGreatDoor
