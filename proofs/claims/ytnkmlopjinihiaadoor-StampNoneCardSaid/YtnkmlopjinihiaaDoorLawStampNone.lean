/- sakialaw22.StampNone returns true for every input, and changes nothing; the card ties the listed package variable to the program's text. -/
import Derived.Test.YtnkmlopjinihiaaDoorNone22
import Derived.Test.YtnkmlopjinihiaaDoorOpenC
import Derived.Test.YtnkmlopjinihiaaDoorRows
import Derived.Test.YtnkmlopjinihiaaDoorCards
import Derived.Test.YtnkmlopjinihiaaDoorTie
import Derived.ProofKit
import Derived.OpenShut
import Derived.ShutString
import Derived.ChangeOld
import Derived.Below
import Derived.Lib.SmallJoins
import Derived.LaidMore
import Derived.Stop.Joined
import Derived.SevenTiedAt
import Derived.ChangeMaps5
namespace Go.Proofs.YtnkmlopjinihiaaDoor
open Go Go.RowKit
set_option linter.unusedVariables false
set_option maxHeartbeats 400000
set_option maxRecDepth 100000

namespace lawStampNone
open Go.ChangeShapes Go.WideShapes Go.ChangeAt Go.RowKit
theorem own : ownKnob Tryd.prog.godebug = none := by kernel_rfl
theorem laidOut : laidOutB Tryd.prog = true := by kernel_rfl
theorem door_met (os : Os) (args : Array Value) : laidMetH Tryd.prog laidTab ((World.doorLaid Tryd.prog 400 os).forCall (fun _ _ => 0) ⟨#[], args, []⟩).memory :=
  laidMetH_of_parts3 (fuel := 80) (laidMet_of_run' 80 (by kernel_rfl) (by kernel_rfl)) (by kernel_rfl) (by kernel_rfl)
theorem lifted (os : Os) (started : os.Started) (H : Type) (enc : TypeId × Value → H) :
    ReturnsInHanded {} Tryd.checked os 10 .any (fun w args => (Rows.stampNoneSpec.pre enc Tryd.prog Tryd.f10 [] false w args ∧ laidMetH Tryd.prog laidTab w) ∧ sizedMet enc Tryd.prog Tryd.f10 (OpenSpec.ofChange Rows.stampNoneSpec) false w args)
      (Rows.stampNoneSpec.post enc Tryd.prog Tryd.f10 false true false false) := by
  refine returnsInHanded_of_change_and (C := Tryd.checked) (X := fun w _ => laidMetH Tryd.prog laidTab w) (fun _ _ _ hh h => h.of_heap hh) own started (by kernel_rfl) Tryd.func10
    (ChangeSpec.witness_shaped (enc := enc) (C := Tryd.checked) (os := os) (X := fun w _ => laidMetH Tryd.prog laidTab w) false (World.doorLaid Tryd.prog 400 os) #[.agg #[.bool false, .int .u8 0, .int .u8 0, .int .u8 0, .int .u64 0], .agg #[.int .i64 0, .int .i64 0], .int .i64 0] 8 rfl (World.shaped_of_RefB (by kernel_rfl) (by kernel_rfl)) (by kernel_rfl) (by kernel_rfl) (by kernel_rfl) (door_met os _)) ?_
  intro W base args ds gs before hval0 hW _ _ hL _
  have hval : ∀ (j : Nat) t v, Tryd.f10.params[j]? = some t → args[j]? = some v → Value.okWide Tryd.prog W .any base t v := hval0
  have hW' := hW
  obtain ⟨p, q, hA0, hV, rfl, hfz, hnd⟩ := hW
  have hA : DataW.TrodAll enc Tryd.prog W 0 (fun _ => true) true Tryd.f10.params.toList args.toList ds p := hA0
  rw [Tryd.params10] at hA hval
  obtain ⟨v0, vs0, d0, ds0, p0, q0, hargs, rfl, rfl, h0, r0⟩ := trodAll_cons hA
  obtain ⟨v1, vs1, d1, ds1, p1, q1, rfl, rfl, rfl, h1, r1⟩ := trodAll_cons r0
  obtain ⟨v2, vs2, d2, ds2, p2, q2, rfl, rfl, rfl, h2, r2⟩ := trodAll_cons r1
  obtain ⟨rfl, rfl, rfl⟩ := trodAll_nil r2
  obtain rfl : args = #[v0, v1, v2] := by cases args; simp_all
  obtain ⟨rfl, rfl⟩ := trodVars_none hV
  have k0 := h0
  have lt0 : ∀ x ∈ p0, x.block < W.heap.size := by obtain ⟨m, hm⟩ := k0; exact DataW.trod_lt m _ _ _ hm
  obtain ⟨u00, u01, u02, u03, u04, y0, y1, y2, y3, y4, ny, rfl, g0, g1, g2, g3, g4⟩ := open_agg5 Tryd.underlying97 (by kernel_rfl) (by kernel_rfl) (hval 0 97 v0 rfl rfl) h0
  obtain ⟨wd0, e0, _⟩ := DataW.trod_bool Tryd.underlying4 g0
  obtain ⟨lg0, e1, _, i1⟩ := DataW.trod_int Tryd.underlying5 g1
  obtain ⟨pr0, e2, _, i2⟩ := DataW.trod_int Tryd.underlying5 g2
  obtain ⟨rt0, e3, _, i3⟩ := DataW.trod_int Tryd.underlying5 g3
  obtain ⟨st0, e4, _, i4⟩ := DataW.trod_int Tryd.underlying22 g4
  simp at e0 e1 e2 e3 e4
  subst e0 e1 e2 e3 e4
  have B1 := bounds_u8 i1
  have B2 := bounds_u8 i2
  have B3 := bounds_u8 i3
  have B4 := bounds_u64 i4
  have k1 := h1
  have lt1 : ∀ x ∈ p1, x.block < W.heap.size := by obtain ⟨m, hm⟩ := k1; exact DataW.trod_lt m _ _ _ hm
  obtain ⟨x1, z1, rfl⟩ := open_two Tryd.underlying98 Tryd.underlying3 (by kernel_rfl) (by kernel_rfl) (hval 1 98 v1 rfl rfl) h1
  have k2 := h2
  have lt2 : ∀ x ∈ p2, x.block < W.heap.size := by obtain ⟨m, hm⟩ := k2; exact DataW.trod_lt m _ _ _ hm
  obtain ⟨a2, rfl, rfl, rfl, w2⟩ := open_int Tryd.underlying3 (hval 2 3 v2 rfl rfl) h2
  have hTab := tab_of_laid hL
  clear hA0 hval0
  refine (stampNone_any wd0 lg0 pr0 rt0 st0 (by omega) (by omega) (by omega) B4 x1 z1 a2 W hTab.1 hTab.2).mono fun e W' ⟨he, bel⟩ => ?_
  subst he
  exact ⟨_, rfl, _, _, _, [], _, [], hW', trodAll_mk1 (shut_bool Tryd.underlying4 _), (trodAll_cons_mk (Below.trod laidOut (by kernel_rfl) (of_decide_eq_true (by kernel_rfl)) k0 bel lt0) (trodAll_cons_mk (Below.trod laidOut (by kernel_rfl) (of_decide_eq_true (by kernel_rfl)) k1 bel lt1) (trodAll_cons_mk (Below.trod laidOut (by kernel_rfl) (of_decide_eq_true (by kernel_rfl)) k2 bel lt2) trodAll_mk0))), rfl, bel.frame _, fun h => by cases h⟩
theorem over : Rows.stampNoneRow.holds Tryd.pinned (OpenSpec.ofChange Rows.stampNoneSpec) :=
  OpenClaim.holds_of_wide 10 Tryd.f10 rfl rfl rfl rfl rfl rfl rfl ⟨rfl, rfl, rfl, rfl, rfl⟩ rfl rfl rfl rfl rfl (by kernel_rfl) Tryd.func10 (by kernel_rfl)
    (of_decide_eq_true (by kernel_rfl)) (by unfold Func.isWrapper; first | (rw [if_pos (by decide +kernel)]; kernel_rfl) | (rw [if_neg (by decide +kernel)]; exact ⟨rfl, rfl⟩))
    (fun os started H enc _ => lifted os started H enc)
theorem fits (f : FuncId) (fn : Func) (hf : Tryd.pinned.checked.prog.funcNamed "sakia/sakialaw22.StampNone" = some f) (hfn : Tryd.pinned.checked.prog.funcs[f]? = some fn) : f = 10 ∧ fn = Tryd.f10 := by
  obtain rfl : f = 10 := Option.some.inj ((show Tryd.prog.funcNamed "sakia/sakialaw22.StampNone" = some 10 by kernel_rfl).symm.trans hf) |>.symm
  exact ⟨rfl, (Option.some.inj (Tryd.func10.symm.trans hfn)).symm⟩
end lawStampNone
/-- THE STATEMENT. -/
theorem stampNone_holds : Rows.StampNoneCardSaid :=
  Claim7.holds_tied_plain_at .later [] [.data] true _ false
    lawStampNone.over (fun _ h => by cases h) (by kernel_rfl) (fun _ h => by cases h) stampNone_row_tie rfl ⟨rfl, rfl⟩ (by kernel_rfl) rfl
    (fun f fn hf hfn => by
      obtain ⟨rfl, rfl⟩ := lawStampNone.fits f fn hf hfn
      exact ⟨by kernel_rfl, fun j t ht => by
        rw [Tryd.params10] at ht
        have hm : t ∈ [97, 98, 3] := by simpa using Array.mem_of_getElem? ht
        have hall : ([97, 98, 3].all fun u => !Tryd.prog.wantsStandIn u) = true := by kernel_rfl
        exact (show Tryd.prog.wantsStandIn t = false by simpa using List.all_eq_true.1 hall t hm)⟩)
    (by kernel_rfl)
#print axioms stampNone_holds
end Go.Proofs.YtnkmlopjinihiaaDoor
