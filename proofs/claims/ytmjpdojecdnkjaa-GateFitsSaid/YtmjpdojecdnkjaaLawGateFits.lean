/- sakialaw16.GateFits returns true for every input, and changes nothing. -/
import Derived.Test.YtmjpdojecdnkjaaFits
import Derived.Test.YtmjpdojecdnkjaaBase
import Derived.Test.YtmjpdojecdnkjaaRows
import Derived.ProofKit
import Derived.OpenShut
import Derived.ShutString
import Derived.ChangeOld
import Derived.Below
namespace Go.Proofs.Ytmjpdojecdnkjaa
open Go.RowKit
set_option linter.unusedVariables false
set_option maxHeartbeats 400000

def fitB (width cap a n l : Int) : Bool := decide (difM (MW width) (addM (MW width) a n) l ≤ cap)
def spaB (width cap a l : Int) : Int := spaceI cap (difM (MW width) a l)
theorem difM_cut (M a b : Int) (h : M = M32 ∨ M = M64) : difM M (cutM M a) (cutM M b) = difM M a b := by
  rcases h with rfl | rfl <;> simp only [difM, cutM, M32, M64] <;> congr 1 <;> omega
theorem fits32' (cap a n l : Int) (w : World) :
    Calls Try.prog 11 #[.int .i64 cap, .int .u32 (cutM M32 a), .int .i64 n, .int .u32 (cutM M32 l)] w fun e w' => e = .returned (.bool (fitB 32 cap a n l)) ∧ w = w' :=
  (fits32 cap _ n _ w).mono fun e w' ⟨h1, h2⟩ => ⟨h1.trans (ret_bool (by
    have : difM M32 (addM M32 (cutM M32 a) n) (cutM M32 l) = difM (MW 32) (addM (MW 32) a n) l := by
      simp only [difM, cutM, addM, M32, MW]; simp
    unfold fitB; rw [this])), h2⟩
theorem fits64' (cap a n l : Int) (w : World) :
    Calls Try.prog 13 #[.int .i64 cap, .int .u64 a, .int .i64 n, .int .u64 l] w fun e w' => e = .returned (.bool (fitB 64 cap a n l)) ∧ w = w' :=
  (fits64 cap _ n _ w).mono fun e w' ⟨h1, h2⟩ => ⟨h1.trans rfl, h2⟩
theorem rfits' (width cap a n l : Int) (hw : width = 32 ∨ width = 64) (ha : 0 ≤ a ∧ a ≤ 18446744073709551615) (hl : 0 ≤ l ∧ l ≤ 18446744073709551615) (w : World) :
    Calls Try.prog 12 #[.int .i64 width, .int .i64 cap, .int .u64 a, .int .i64 n, .int .u64 l] w fun e w' => e = .returned (.bool (fitB width cap a n l)) ∧ w = w' :=
  (rfits width cap a n l hw ha hl w).mono fun e w' ⟨h1, h2⟩ => ⟨h1.trans rfl, h2⟩
theorem space32' (cap a l : Int) (hc : -9223372036854775808 ≤ cap ∧ cap ≤ 9223372036854775807) (w : World) :
    Calls Try.prog 14 #[.int .i64 cap, .int .u32 (cutM M32 a), .int .u32 (cutM M32 l)] w fun e w' => e = .returned (.int .i64 (spaB 32 cap a l)) ∧ w = w' :=
  (space32 cap _ _ hc w).mono fun e w' ⟨h1, h2⟩ => ⟨h1.trans (ret_int (by rw [difM_cut _ _ _ (.inl rfl)]; rfl)), h2⟩
theorem space64' (cap a l : Int) (hc : -9223372036854775808 ≤ cap ∧ cap ≤ 9223372036854775807) (w : World) :
    Calls Try.prog 16 #[.int .i64 cap, .int .u64 a, .int .u64 l] w fun e w' => e = .returned (.int .i64 (spaB 64 cap a l)) ∧ w = w' :=
  (space64 cap _ _ hc w).mono fun e w' ⟨h1, h2⟩ => ⟨h1.trans rfl, h2⟩
theorem rspace' (width cap a l : Int) (hw : width = 32 ∨ width = 64) (hc : -9223372036854775808 ≤ cap ∧ cap ≤ 9223372036854775807) (ha : 0 ≤ a ∧ a ≤ 18446744073709551615) (hl : 0 ≤ l ∧ l ≤ 18446744073709551615) (w : World) :
    Calls Try.prog 15 #[.int .i64 width, .int .i64 cap, .int .u64 a, .int .u64 l] w fun e w' => e = .returned (.int .i64 (spaB width cap a l)) ∧ w = w' :=
  (rspace width cap a l hw hc ha hl w).mono fun e w' ⟨h1, h2⟩ => ⟨h1.trans rfl, h2⟩

theorem gateFits_any (cap n a b : Int) (hc : -9223372036854775808 ≤ cap ∧ cap ≤ 9223372036854775807) (ha : 0 ≤ a ∧ a ≤ 18446744073709551615) (hb : 0 ≤ b ∧ b ≤ 18446744073709551615) (w : World) :
    Calls Try.prog 3 #[.int .i64 cap, .int .i64 n, .agg #[.int .u64 a, .int .u64 b]] w fun e w' => e = .returned (.bool true) ∧ Below w.heap.size w w' := by
  go_enter Try.func3, Try.ntmps3
  go_wp2_with fail
  go_quiet ((go_at_call 10; exact quiet_left (of32 _ (by assumption) _)))
  go_wp2_with fail
  go_quiet ((first | (go_at_call 11; exact quiet_add_left (fits32' _ _ _ _ _)) | (go_at_call 13; exact quiet_add_left (fits64' _ _ _ _ _)) | (go_at_call 12; exact quiet_add_left (rfits' _ _ _ _ _ (by decide) (by assumption) (by assumption) _))))
  go_wp2_with fail
  go_quiet ((first | (go_at_call 14; exact quiet_add_left (space32' _ _ _ (by assumption) _)) | (go_at_call 16; exact quiet_add_left (space64' _ _ _ (by assumption) _)) | (go_at_call 15; exact quiet_add_left (rspace' _ _ _ _ (by decide) (by assumption) (by assumption) (by assumption) _)) | (go_at_call 17; exact quiet_add_left (live16 _))))
  go_wp2_with fail
  go_ret
  exact ⟨rfl, below_drewN (below_drewN (below_drewN ((Below.refl _ _).alloc (Nat.le_refl _) _) _) _) _⟩

theorem open_arr2 {H : Type} {enc : TypeId × Value → H} {P : Program} {W : World} {r : Reach} {base b0 : Nat} {spare : Nat → Bool} {held : Bool} {t e : TypeId} {k : IntKind} {v : Value} {d : DataW H} {p : List MemPlace}
    (ht : P.underlying t = some (.array 2 e)) (he : P.underlying e = some (.int k)) (hc2 : P.cellsOf t = 2) (hc1 : P.cellsOf e = 1) (hv : Value.okWide P W r base t v) (h : DataW.Trod enc P W b0 spare held t v d p) :
    ∃ x y : Int, v = .agg #[.int k x, .int k y] ∧ (Lit.int k x).wf = true ∧ (Lit.int k y).wf = true := by
  obtain ⟨cs, rfl, hsz⟩ : ∃ cs, v = .agg cs ∧ cs.size = P.cellsOf t := by
    unfold Value.okWide at hv
    rw [ht] at hv
    obtain ⟨cs, h, h', _⟩ := hv
    exact ⟨cs, h, h'⟩
  rw [hc2] at hsz
  obtain ⟨l⟩ := cs
  match l, hsz with
  | [c0, c1], _ =>
    obtain ⟨fuel, hf⟩ := h
    obtain ⟨xs, m, _, _, _, hl, hg⟩ := DataW.trod_array ht hf
    have e0 := hg 0 (by omega)
    have e1 := hg 1 (by omega)
    rw [hc1] at e0 e1
    rw [List.getElem?_eq_getElem (by omega)] at e0 e1
    obtain ⟨x, hx, _, wx⟩ := DataW.trod_int he e0
    obtain ⟨y, hy, _, wy⟩ := DataW.trod_int he e1
    simp [Value.cells] at hx hy
    subst hx; subst hy
    exact ⟨x, y, rfl, wx, wy⟩

namespace lawGateFits
open Go.ChangeShapes Go.WideShapes Go.ChangeAt Go.RowKit
theorem own : ownKnob Try.prog.godebug = none := by kernel_rfl
theorem laidOut : laidOutB Try.prog = true := by kernel_rfl
set_option maxRecDepth 100000 in
theorem lifted (os : Os) (started : os.Started) (H : Type) (enc : TypeId × Value → H) :
    ReturnsInHanded {} Try.checked os 3 .any (Rows.gateFitsSpec.pre6 enc Try.prog Try.f3 Rows.gateFitsRow.domain false) (Rows.gateFitsSpec.post enc Try.prog Try.f3 false true false false) := by
  refine returnsInHanded_of_change (C := Try.checked) own started (by kernel_rfl) Try.func3
    (ChangeSpec.witness6 (enc := enc) (C := Try.checked) false ⟨#[], #[.int .i64 0, .int .i64 0, .agg #[.int .u64 0, .int .u64 0]], []⟩ 8 (by kernel_rfl) (by kernel_rfl) (by kernel_rfl) (by kernel_rfl)) ?_
  intro W base args ds gs before hval0 hW hcnd _
  have hval : ∀ (j : Nat) t v, Try.f3.params[j]? = some t → args[j]? = some v → Value.okWide Try.prog W .any base t v := hval0
  have hW' := hW
  obtain ⟨p, q, hA0, hV, rfl, hfz, hnd⟩ := hW
  have hA : DataW.TrodAll enc Try.prog W 0 (fun _ => true) true Try.f3.params.toList args.toList ds p := hA0
  rw [Try.params3] at hA hval
  obtain ⟨v0, vs0, d0, ds0, p0, q0, hargs, rfl, rfl, h0, r0⟩ := trodAll_cons hA
  obtain ⟨v1, vs1, d1, ds1, p1, q1, rfl, rfl, rfl, h1, r1⟩ := trodAll_cons r0
  obtain ⟨v2, vs2, d2, ds2, p2, q2, rfl, rfl, rfl, h2, r2⟩ := trodAll_cons r1
  obtain ⟨rfl, rfl, rfl⟩ := trodAll_nil r2
  obtain rfl : args = #[v0, v1, v2] := by cases args; simp_all
  obtain ⟨rfl, rfl⟩ := trodVars_none hV
  obtain ⟨a0, rfl, rfl, rfl, w0⟩ := open_int Try.underlying3 (hval 0 3 v0 rfl rfl) h0
  obtain ⟨a1, rfl, rfl, rfl, w1⟩ := open_int Try.underlying3 (hval 1 3 v1 rfl rfl) h1
  have k2 := h2
  have lt2 : ∀ x ∈ p2, x.block < W.heap.size := by obtain ⟨m, hm⟩ := k2; exact DataW.trod_lt m _ _ _ hm
  obtain ⟨x, y, rfl, wx, wy⟩ := open_arr2 Try.underlying23 Try.underlying22 (by kernel_rfl) (by kernel_rfl) (hval 2 23 v2 rfl rfl) h2
  have hx := bounds_u64 wx
  have hy := bounds_u64 wy
  clear hA0 hval0
  refine (gateFits_any a0 a1 x y (bounds_i64 w0) hx hy W).mono fun e W' ⟨he, bel⟩ => ?_
  subst he
  exact ⟨_, rfl, _, _, _, [], _, [], hW', trodAll_mk1 (shut_bool Try.underlying4 _), (trodAll_cons_mk (shut_int Try.underlying3 w0) (trodAll_cons_mk (shut_int Try.underlying3 w1) (trodAll_cons_mk (Below.trod laidOut (by kernel_rfl) (of_decide_eq_true (by kernel_rfl)) k2 bel lt2) trodAll_mk0))), rfl, bel.frame _, fun h => by cases h⟩

theorem over : Rows.gateFitsRow.holds Try.pinned (OpenSpec.ofChange Rows.gateFitsSpec) :=
  OpenClaim.holds_of_wide 3 Try.f3 rfl rfl rfl rfl rfl rfl rfl ⟨rfl, rfl, rfl, rfl, rfl⟩ rfl rfl rfl rfl rfl (by kernel_rfl) Try.func3 (by kernel_rfl)
    (of_decide_eq_true (by kernel_rfl)) (by unfold Func.isWrapper; rw [if_neg (by decide +kernel)]; exact ⟨rfl, rfl⟩)
    (fun os started H enc _ => lifted os started H enc)
end lawGateFits
/-- THE STATEMENT. -/
theorem gateFits_holds : Rows.GateFitsSaid := lawGateFits.over
#print axioms gateFits_holds
end Go.Proofs.Ytmjpdojecdnkjaa
