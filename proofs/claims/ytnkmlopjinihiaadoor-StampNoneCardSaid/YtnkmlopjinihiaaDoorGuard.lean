/- Which inputs a statement over configurations lets in; boards that are made for them. -/
import Derived.Test.YtnkmlopjinihiaaDoorLocked
import Derived.Test.YtnkmlopjinihiaaDoorMarkP
import Derived.Test.YtnkmlopjinihiaaDoorTurnP
namespace Go.Proofs.YtnkmlopjinihiaaDoor
open Go.RowKit
set_option linter.unusedVariables false
set_option linter.unusedSimpArgs false
set_option maxHeartbeats 2000000

def ShortUp (up : List (List Int)) : Prop := up.length ≤ 20 ∧ ∀ l ∈ up, l.length ≤ 20
instance (up : List (List Int)) : Decidable (ShortUp up) := by unfold ShortUp; infer_instance
theorem llongB (Bk : Nat → Prop) (up : List (List Int)) (ua : Option Addr) (uc : Nat) (hlen : up.length ≤ maxLen) (hll : ∀ l ∈ up, l.length ≤ maxLen) (w : World) (hU : UpAt w Bk ua up) :
    Calls Tryd.prog 14 #[.slice ua up.length uc] w fun e w' => e = .returned (.bool (!decide (ShortUp up))) ∧ w = w' := by
  unfold maxLen at hlen hll
  go_enter Tryd.func14, Tryd.ntmps14
  go_wp2_with fail
  go_loop [3] (fun i => ∃ k : Nat, k ≤ up.length ∧ k ≤ 20 ∧ i = .int .i64 k ∧ ∀ (j : Nat) (l : List Int), j < k → up[j]? = some l → l.length ≤ 20) (fun i => 20 - (intOf i).toNat)
  case atStart => exact ⟨0, by omega, by omega, rfl, fun j l h => by omega⟩
  case round =>
    obtain ⟨k, hk, hk20, rfl, hinv⟩ := hrel
    have HINV := Lib.hid hinv
    clear hinv
    by_cases hlt : k < up.length
    · by_cases h20 : k < 20
      · have hx := List.getElem?_eq_getElem hlt
        obtain ⟨b, o, A', cc, rfl, hb, hc, hI, hcap⟩ := hU k _ hx
        have hlm := hll _ (List.getElem_mem hlt)
        have hme := List.getElem_mem hlt
        generalize up[k] = l at *
        have HX := Lib.hid hx
        have HU := Lib.hid hU
        have HI := Lib.hid hI
        have HME := Lib.hid hme
        clear hx hU hI hme
        by_cases hl2 : 20 < l.length
        · have hno : (!decide (ShortUp up)) = true := by
            have : ¬ ShortUp up := fun hs => by have := hs.2 l HME.out; omega
            simp [this]
          go_wp2_with fail
          go_ret
          exact ⟨by first | rfl | exact ret_bool hno.symm, rfl⟩
        · go_wp2_with fail
          go_round
          case rel => exact ⟨k + 1, by omega, by omega, by go_num, fun j l' hj hl' => by
            by_cases hjk : j = k
            · subst hjk; rw [HX.out] at hl'; cases hl'; omega
            · exact HINV.out j l' (by omega) hl'⟩
          case measure => simp [intOf]; omega
      · have hk2 : k = 20 := by omega
        subst hk2
        have h21 : 20 < up.length := hlt
        have hno : (!decide (ShortUp up)) = true := by
          have : ¬ ShortUp up := fun hs => by have := hs.1; omega
          simp [this]
        clear hU
        go_wp2_with fail
        go_ret
        exact ⟨ret_bool (by first | rfl | (rw [hno]; simp; omega) | (simp; omega)), rfl⟩
    · have hkl : k = up.length := by omega
      have h20 : up.length ≤ 20 := by omega
      have hfin : ShortUp up := ⟨h20, fun l hl => by
        obtain ⟨j, hj⟩ := List.getElem?_of_mem hl
        exact HINV.out j l (by have := (List.getElem?_eq_some_iff.1 hj).1; omega) hj⟩
      have hno : (!decide (ShortUp up)) = false := by simp [hfin]
      clear hU hkl hfin
      go_wp2_with fail
      go_ret
      exact ⟨ret_bool (by first | rfl | (rw [hno]; simp; omega) | (simp; omega)), rfl⟩
/-- a board that was just made, for a configuration -/
theorem newBS_fit (c : Cf) {up : List (List Int)} (hok : CfOk c up) (hun : c.un = up.length) : (newBS (mkLay c)).Fit (MW c.width) := by
  have hlen := hok.up.len
  have ho := newBS_ok (l := mkLay c) (mkLay_bd (by omega) hok.cap) (by rw [mkLay_c]; exact hok.cap) (by have := mkLay_cells hok.cap; rw [mkLay_c]; exact this)
  rw [mkLay_c] at ho
  have hl : (newBS (mkLay c)).l = mkLay c := rfl
  have hlc : (newBS (mkLay c)).l.c = c := by rw [hl, mkLay_c]
  refine ⟨ho, by rw [hlc]; exact hl, by rw [hlc]; exact hok.cap, by rw [hlc]; exact hok.variant, by rw [hlc]; omega, by rw [hlc]⟩
theorem CfOk.ua {c : Cf} {up : List (List Int)} (h : CfOk c up) (ua : Option Addr) (uc : Nat) : CfOk { c with ua := ua, uc := uc } up := ⟨h.variant, h.width, h.cap, h.producers, h.one, h.up⟩
end Go.Proofs.YtnkmlopjinihiaaDoor
