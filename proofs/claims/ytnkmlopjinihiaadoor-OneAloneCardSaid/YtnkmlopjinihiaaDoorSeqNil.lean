/- seqone's methods without a sequencer or registers. A configuration whose consumers are all roots. -/
import Derived.Test.YtnkmlopjinihiaaDoorSeqNew
import Derived.Test.YtnkmlopjinihiaaDoorCase19
import Derived.Test.YtnkmlopjinihiaaDoorGuard
import Derived.Test.YtnkmlopjinihiaaDoorLocked
namespace Go.Proofs.YtnkmlopjinihiaaDoor
open Go.RowKit
set_option linter.unusedVariables false
set_option linter.unusedSimpArgs false
set_option maxHeartbeats 4000000

theorem edge_nils {n a b : Nat} (h : Edge (List.replicate n []) a b) : False := by
  obtain ⟨l, hl, hb⟩ := h
  have : l = [] := by obtain ⟨_, rfl⟩ := List.getElem?_eq_some_iff.1 hl; simp
  subst this
  simp at hb
theorem upOk_nils {n : Nat} (h : 1 ≤ n ∧ n ≤ 6) : UpOk (List.replicate n []) := by
  refine ⟨by rw [List.length_replicate]; exact h, fun l hl => ?_, fun ⟨c, _, hr⟩ => ?_⟩
  · obtain ⟨_, rfl⟩ := List.mem_replicate.1 hl
    exact ⟨fun x hx => by simp at hx, List.nodup_nil⟩
  · cases hr with
    | one h => exact edge_nils h
    | more h _ => exact edge_nils h
theorem nils_short {n : Nat} : ∀ l ∈ List.replicate n ([] : List Int), l.length ≤ 1000000 := fun l hl => by obtain ⟨_, rfl⟩ := List.mem_replicate.1 hl; simp
theorem cap2_C (lg : Int) : Cap2 (capC lg) := by rcases capC_in lg with h | h | h | h <;> rw [h] <;> unfold Cap2 <;> simp
def wdC (wd : Bool) : Int := if wd then 64 else 32
theorem conf19 (wd : Bool) (lg pr rt st : Int) (hl : 0 ≤ lg ∧ lg ≤ 255) (hp : 0 ≤ pr ∧ pr ≤ 255) (hr : 0 ≤ rt ∧ rt ≤ 255) (w : World) :
    Calls Tryd.prog 48 #[.agg #[.bool wd, .int .u8 lg, .int .u8 pr, .int .u8 rt, .int .u64 st]] w (CaseEnd 1 (wdC wd) (capC lg) 1 st rt w) := by
  cases wd
  · exact conf19_false lg pr rt st hl hp hr w
  · exact conf19_true lg pr rt st hl hp hr w
theorem q1_claimNil32 (gv fv : Option Addr) (hn : gv = none ∨ fv = none) (t : Int) (w : World) :
    Calls Tryd.prog 121 #[.pointer gv, .int .i64 t, .pointer fv] w fun e w' => e = .returned (.bool true) ∧ ∃ m, w' = w.drewN m := by
  go_enter Tryd.func121, Tryd.ntmps121
  go_wp2_with fail
  go_step3
  go_wp2_with (go_at_call 177; refine (mayN_one32 w gv fv hn t).mono ?_; rintro e w' ⟨rfl, m, rfl⟩)
  try rw [Exit.noGoto_ret]
  go_ret
  exact ⟨rfl, m, rfl⟩
theorem q1_publishNil32 (gv fv : Option Addr) (hn : gv = none ∨ fv = none) (t : Int) (w : World) :
    Calls Tryd.prog 122 #[.pointer gv, .int .i64 t, .pointer fv] w fun e w' => e = .returned (.bool true) ∧ ∃ m, w' = w.drewN m := by
  go_enter Tryd.func122, Tryd.ntmps122
  go_wp2_with (go_at_call 177; refine (mayN_one32 w gv fv hn t).mono ?_; rintro e w' ⟨rfl, m, rfl⟩)
  go_ret
  exact ⟨rfl, m, rfl⟩
theorem q1_tipNil32 (gv fv : Option Addr) (hn : gv = none ∨ fv = none) (t : Int) (w : World) :
    Calls Tryd.prog 123 #[.pointer gv, .int .i64 t, .pointer fv] w fun e w' => e = .returned (.bool true) ∧ ∃ m, w' = w.drewN m := by
  rcases hn with rfl | rfl
  · go_enter Tryd.func123, Tryd.ntmps123
    go_wp2_with fail
    go_ret
    exact ⟨rfl, 0, rfl⟩
  · cases gv with
    | none =>
      go_enter Tryd.func123, Tryd.ntmps123
      go_wp2_with fail
      go_ret
      exact ⟨rfl, 0, rfl⟩
    | some a =>
      go_enter Tryd.func123, Tryd.ntmps123
      go_wp2_with fail
      go_ret
      exact ⟨rfl, 0, rfl⟩
theorem q1_claimNil64 (gv fv : Option Addr) (hn : gv = none ∨ fv = none) (t : Int) (w : World) :
    Calls Tryd.prog 52 #[.pointer gv, .int .i64 t, .pointer fv] w fun e w' => e = .returned (.bool true) ∧ ∃ m, w' = w.drewN m := by
  go_enter Tryd.func52, Tryd.ntmps52
  go_wp2_with fail
  go_step3
  go_wp2_with (go_at_call 125; refine (mayN_one64 w gv fv hn t).mono ?_; rintro e w' ⟨rfl, m, rfl⟩)
  try rw [Exit.noGoto_ret]
  go_ret
  exact ⟨rfl, m, rfl⟩
theorem q1_publishNil64 (gv fv : Option Addr) (hn : gv = none ∨ fv = none) (t : Int) (w : World) :
    Calls Tryd.prog 53 #[.pointer gv, .int .i64 t, .pointer fv] w fun e w' => e = .returned (.bool true) ∧ ∃ m, w' = w.drewN m := by
  go_enter Tryd.func53, Tryd.ntmps53
  go_wp2_with (go_at_call 125; refine (mayN_one64 w gv fv hn t).mono ?_; rintro e w' ⟨rfl, m, rfl⟩)
  go_ret
  exact ⟨rfl, m, rfl⟩
theorem q1_tipNil64 (gv fv : Option Addr) (hn : gv = none ∨ fv = none) (t : Int) (w : World) :
    Calls Tryd.prog 54 #[.pointer gv, .int .i64 t, .pointer fv] w fun e w' => e = .returned (.bool true) ∧ ∃ m, w' = w.drewN m := by
  rcases hn with rfl | rfl
  · go_enter Tryd.func54, Tryd.ntmps54
    go_wp2_with fail
    go_ret
    exact ⟨rfl, 0, rfl⟩
  · cases gv with
    | none =>
      go_enter Tryd.func54, Tryd.ntmps54
      go_wp2_with fail
      go_ret
      exact ⟨rfl, 0, rfl⟩
    | some a =>
      go_enter Tryd.func54, Tryd.ntmps54
      go_wp2_with fail
      go_ret
      exact ⟨rfl, 0, rfl⟩
end Go.Proofs.YtnkmlopjinihiaaDoor
