/- sakialaw24.SeqsWords returns true for every input: the walk. -/
import Derived.Test.YtmjpdojecdnkjaaDoorOwn
import Derived.Test.YtmjpdojecdnkjaaDoorNum
import Derived.Test.YtmjpdojecdnkjaaDoorProg
namespace Go.Proofs.YtmjpdojecdnkjaaDoor
open Go.RowKit
set_option linter.unusedVariables false
set_option linter.unusedSimpArgs false
set_option maxHeartbeats 2000000

def sw0 : ByteArray := ⟨#[]⟩
def sw1 : ByteArray := ⟨#[111, 110, 101]⟩
def sw2 : ByteArray := ⟨#[99, 97, 115]⟩
def sw3 : ByteArray := ⟨#[102, 97, 97]⟩
def sw4 : ByteArray := ⟨#[115, 116, 97, 109, 112]⟩
def sw5 : ByteArray := ⟨#[108, 111, 99, 107]⟩
def wordS (v : Int) : ByteArray := if v = 1 then sw1 else if v = 2 then sw2 else if v = 3 then sw3 else if v = 4 then sw4 else if v = 5 then sw5 else sw0
def findS (s : ByteArray) : Int := if sw0.toList = s.toList then 0 else if sw1.toList = s.toList then 1 else if sw2.toList = s.toList then 2 else if sw3.toList = s.toList then 3 else if sw4.toList = s.toList then 4 else if sw5.toList = s.toList then 5 else 0
theorem findS_at {k : Int} (hk : 1 ≤ k ∧ k ≤ 5) : findS (wordS k) = k := by
  have : k = 1 ∨ k = 2 ∨ k = 3 ∨ k = 4 ∨ k = 5 := by omega
  rcases this with rfl | rfl | rfl | rfl | rfl
  · exact (show findS (wordS 1) = 1 by kernel_rfl)
  · exact (show findS (wordS 2) = 2 by kernel_rfl)
  · exact (show findS (wordS 3) = 3 by kernel_rfl)
  · exact (show findS (wordS 4) = 4 by kernel_rfl)
  · exact (show findS (wordS 5) = 5 by kernel_rfl)
theorem findS_zero (s : ByteArray) : findS s = 0 ∨ (wordS (findS s)).toList = s.toList := by
  unfold findS
  split
  · exact .inl rfl
  · split
    · rename_i h; exact .inr h
    · split
      · rename_i h; exact .inr h
      · split
        · rename_i h; exact .inr h
        · split
          · rename_i h; exact .inr h
          · split
            · rename_i h; exact .inr h
            · exact .inl rfl
theorem swNames (w : World) : Calls Tryd.prog 22 #[] w fun e w' => e = .returned (.agg #[.string sw0, .string sw1, .string sw2, .string sw3, .string sw4, .string sw5]) ∧ Below w.heap.size w w' := by
  go_enter Tryd.func22, Tryd.ntmps22
  go_wp2_with fail
  refine bodyPost_ret (v := .agg #[.string sw0, .string sw1, .string sw2, .string sw3, .string sw4, .string sw5]) ?_ rfl ?_
  · simp only [results, Tryd.results22]
    go_simp
    exact ⟨rfl, rfl, rfl, rfl, rfl, rfl⟩
  · refine ⟨rfl, ?_⟩
    (repeat (with_reducible first | exact Below.refl _ _ | refine Below.drew ?_ | refine below_drewN ?_ _ | refine Below.setCell ?_ ?_ _ | refine Below.alloc ?_ ?_ _)); all_goals first | omega | (dsimp only; omega) | (simp; omega) | simp
section
variable (s0 s1 s2 s3 s4 s5 : ByteArray) (w : World)
theorem swIdx0 : (Instr.index 51 (.agg #[.string s0, .string s1, .string s2, .string s3, .string s4, .string s5]) (.int .i64 0)).run Tryd.prog w = .ok (.string s0) w := by kernel_rfl
theorem swIdx1 : (Instr.index 51 (.agg #[.string s0, .string s1, .string s2, .string s3, .string s4, .string s5]) (.int .i64 1)).run Tryd.prog w = .ok (.string s1) w := by kernel_rfl
theorem swIdx2 : (Instr.index 51 (.agg #[.string s0, .string s1, .string s2, .string s3, .string s4, .string s5]) (.int .i64 2)).run Tryd.prog w = .ok (.string s2) w := by kernel_rfl
theorem swIdx3 : (Instr.index 51 (.agg #[.string s0, .string s1, .string s2, .string s3, .string s4, .string s5]) (.int .i64 3)).run Tryd.prog w = .ok (.string s3) w := by kernel_rfl
theorem swIdx4 : (Instr.index 51 (.agg #[.string s0, .string s1, .string s2, .string s3, .string s4, .string s5]) (.int .i64 4)).run Tryd.prog w = .ok (.string s4) w := by kernel_rfl
theorem swIdx5 : (Instr.index 51 (.agg #[.string s0, .string s1, .string s2, .string s3, .string s4, .string s5]) (.int .i64 5)).run Tryd.prog w = .ok (.string s5) w := by kernel_rfl
end
theorem swWord (v : Int) (w : World) : Calls Tryd.prog 5 #[.int .i64 v] w fun e w' => e = .returned (.string (wordS v)) ∧ Below w.heap.size w w' := by
  have HN := Lib.hid swNames
  by_cases h : 1 ≤ v ∧ v ≤ 5
  · have : v = 1 ∨ v = 2 ∨ v = 3 ∨ v = 4 ∨ v = 5 := by omega
    rcases this with rfl | rfl | rfl | rfl | rfl
    · rw [show wordS 1 = sw1 from rfl]
      generalize sw0 = s0 at *
      generalize sw1 = s1 at *
      generalize sw2 = s2 at *
      generalize sw3 = s3 at *
      generalize sw4 = s4 at *
      generalize sw5 = s5 at *
      have x0 := swIdx0
      have x1 := swIdx1
      have x2 := swIdx2
      have x3 := swIdx3
      have x4 := swIdx4
      have x5 := swIdx5
      go_enter Tryd.func5, Tryd.ntmps5
      go_wp2_with (go_at_call 22; refine (HN.out _).mono ?_; rintro e w1 ⟨rfl, hb1⟩; have HB1 := Lib.hid hb1; clear hb1)
      go_ret
      exact ⟨rfl, HB1.out⟩
    · rw [show wordS 2 = sw2 from rfl]
      generalize sw0 = s0 at *
      generalize sw1 = s1 at *
      generalize sw2 = s2 at *
      generalize sw3 = s3 at *
      generalize sw4 = s4 at *
      generalize sw5 = s5 at *
      have x0 := swIdx0
      have x1 := swIdx1
      have x2 := swIdx2
      have x3 := swIdx3
      have x4 := swIdx4
      have x5 := swIdx5
      go_enter Tryd.func5, Tryd.ntmps5
      go_wp2_with (go_at_call 22; refine (HN.out _).mono ?_; rintro e w1 ⟨rfl, hb1⟩; have HB1 := Lib.hid hb1; clear hb1)
      go_ret
      exact ⟨rfl, HB1.out⟩
    · rw [show wordS 3 = sw3 from rfl]
      generalize sw0 = s0 at *
      generalize sw1 = s1 at *
      generalize sw2 = s2 at *
      generalize sw3 = s3 at *
      generalize sw4 = s4 at *
      generalize sw5 = s5 at *
      have x0 := swIdx0
      have x1 := swIdx1
      have x2 := swIdx2
      have x3 := swIdx3
      have x4 := swIdx4
      have x5 := swIdx5
      go_enter Tryd.func5, Tryd.ntmps5
      go_wp2_with (go_at_call 22; refine (HN.out _).mono ?_; rintro e w1 ⟨rfl, hb1⟩; have HB1 := Lib.hid hb1; clear hb1)
      go_ret
      exact ⟨rfl, HB1.out⟩
    · rw [show wordS 4 = sw4 from rfl]
      generalize sw0 = s0 at *
      generalize sw1 = s1 at *
      generalize sw2 = s2 at *
      generalize sw3 = s3 at *
      generalize sw4 = s4 at *
      generalize sw5 = s5 at *
      have x0 := swIdx0
      have x1 := swIdx1
      have x2 := swIdx2
      have x3 := swIdx3
      have x4 := swIdx4
      have x5 := swIdx5
      go_enter Tryd.func5, Tryd.ntmps5
      go_wp2_with (go_at_call 22; refine (HN.out _).mono ?_; rintro e w1 ⟨rfl, hb1⟩; have HB1 := Lib.hid hb1; clear hb1)
      go_ret
      exact ⟨rfl, HB1.out⟩
    · rw [show wordS 5 = sw5 from rfl]
      generalize sw0 = s0 at *
      generalize sw1 = s1 at *
      generalize sw2 = s2 at *
      generalize sw3 = s3 at *
      generalize sw4 = s4 at *
      generalize sw5 = s5 at *
      have x0 := swIdx0
      have x1 := swIdx1
      have x2 := swIdx2
      have x3 := swIdx3
      have x4 := swIdx4
      have x5 := swIdx5
      go_enter Tryd.func5, Tryd.ntmps5
      go_wp2_with (go_at_call 22; refine (HN.out _).mono ?_; rintro e w1 ⟨rfl, hb1⟩; have HB1 := Lib.hid hb1; clear hb1)
      go_ret
      exact ⟨rfl, HB1.out⟩
  · have hw : wordS v = sw0 := by unfold wordS; rw [if_neg (by omega), if_neg (by omega), if_neg (by omega), if_neg (by omega), if_neg (by omega)]
    rw [hw]
    by_cases h1 : v < 1
    · clear h
      have x0 := swIdx0
      have x1 := swIdx1
      have x2 := swIdx2
      have x3 := swIdx3
      have x4 := swIdx4
      have x5 := swIdx5
      go_enter Tryd.func5, Tryd.ntmps5
      go_wp2_with fail
      go_ret
      exact ⟨rfl, Below.refl _ _⟩
    · have h2 : 5 < v := by omega
      clear h
      have x0 := swIdx0
      have x1 := swIdx1
      have x2 := swIdx2
      have x3 := swIdx3
      have x4 := swIdx4
      have x5 := swIdx5
      go_enter Tryd.func5, Tryd.ntmps5
      go_wp2_with fail
      go_ret
      exact ⟨rfl, Below.refl _ _⟩
theorem srWord (v : Int) (w : World) : Calls Tryd.prog 6 #[.int .i64 v] w fun e w' => e = .returned (.string (wordS v)) ∧ Below w.heap.size w w' := by
  by_cases h : 1 ≤ v ∧ v ≤ 5
  · have : v = 1 ∨ v = 2 ∨ v = 3 ∨ v = 4 ∨ v = 5 := by omega
    rcases this with rfl | rfl | rfl | rfl | rfl
    all_goals (unfold wordS sw1 sw2 sw3 sw4 sw5; simp only [if_pos, if_neg, Int.reduceEq]; go_enter Tryd.func6, Tryd.ntmps6; go_wp2_with fail; go_ret; exact ⟨rfl, by (repeat (with_reducible first | exact Below.refl _ _ | refine Below.drew ?_ | refine below_drewN ?_ _ | refine Below.setCell ?_ ?_ _ | refine Below.alloc ?_ ?_ _)); all_goals first | omega | (dsimp only; omega) | (simp; omega) | simp⟩)
  · have hw : wordS v = sw0 := by unfold wordS; rw [if_neg (by omega), if_neg (by omega), if_neg (by omega), if_neg (by omega), if_neg (by omega)]
    rw [hw]
    by_cases h1 : v < 1
    · clear h
      go_enter Tryd.func6, Tryd.ntmps6
      go_wp2_with fail
      go_ret
      exact ⟨rfl, by (repeat (with_reducible first | exact Below.refl _ _ | refine Below.drew ?_ | refine below_drewN ?_ _ | refine Below.setCell ?_ ?_ _ | refine Below.alloc ?_ ?_ _)); all_goals first | omega | (dsimp only; omega) | (simp; omega) | simp⟩
    · have h2 : 5 < v := by omega
      clear h
      go_enter Tryd.func6, Tryd.ntmps6
      go_wp2_with fail
      go_ret
      exact ⟨rfl, by (repeat (with_reducible first | exact Below.refl _ _ | refine Below.drew ?_ | refine below_drewN ?_ _ | refine Below.setCell ?_ ?_ _ | refine Below.alloc ?_ ?_ _)); all_goals first | omega | (dsimp only; omega) | (simp; omega) | simp⟩
theorem swOver (v : Int) (w : World) : Calls Tryd.prog 7 #[.int .i64 v] w fun e w' => e = .returned (.bool (v == 3)) ∧ w = w' := by
  go_enter Tryd.func7, Tryd.ntmps7
  go_wp2_with fail
  go_ret
  exact ⟨rfl, rfl⟩
theorem swLocked (v : Int) (w : World) : Calls Tryd.prog 8 #[.int .i64 v] w fun e w' => e = .returned (.bool (v == 5)) ∧ w = w' := by
  go_enter Tryd.func8, Tryd.ntmps8
  go_wp2_with fail
  go_ret
  exact ⟨rfl, rfl⟩
def swAt (k : Nat) : ByteArray := if k = 0 then sw0 else if k = 1 then sw1 else if k = 2 then sw2 else if k = 3 then sw3 else if k = 4 then sw4 else sw5
theorem findS_hit (s : ByteArray) : ∀ k, k < 6 → (∀ j, j < k → (swAt j).toList ≠ s.toList) → (swAt k).toList = s.toList → findS s = k := by
  intro k hk h1 h2
  have : k = 0 ∨ k = 1 ∨ k = 2 ∨ k = 3 ∨ k = 4 ∨ k = 5 := by omega
  rcases this with rfl | rfl | rfl | rfl | rfl | rfl
  · unfold findS; rw [if_pos (show sw0.toList = s.toList from h2)]; rfl
  · unfold findS; rw [if_neg (show ¬ sw0.toList = s.toList from h1 0 (by omega)), if_pos (show sw1.toList = s.toList from h2)]; rfl
  · unfold findS; rw [if_neg (show ¬ sw0.toList = s.toList from h1 0 (by omega)), if_neg (show ¬ sw1.toList = s.toList from h1 1 (by omega)), if_pos (show sw2.toList = s.toList from h2)]; rfl
  · unfold findS; rw [if_neg (show ¬ sw0.toList = s.toList from h1 0 (by omega)), if_neg (show ¬ sw1.toList = s.toList from h1 1 (by omega)), if_neg (show ¬ sw2.toList = s.toList from h1 2 (by omega)), if_pos (show sw3.toList = s.toList from h2)]; rfl
  · unfold findS; rw [if_neg (show ¬ sw0.toList = s.toList from h1 0 (by omega)), if_neg (show ¬ sw1.toList = s.toList from h1 1 (by omega)), if_neg (show ¬ sw2.toList = s.toList from h1 2 (by omega)), if_neg (show ¬ sw3.toList = s.toList from h1 3 (by omega)), if_pos (show sw4.toList = s.toList from h2)]; rfl
  · unfold findS; rw [if_neg (show ¬ sw0.toList = s.toList from h1 0 (by omega)), if_neg (show ¬ sw1.toList = s.toList from h1 1 (by omega)), if_neg (show ¬ sw2.toList = s.toList from h1 2 (by omega)), if_neg (show ¬ sw3.toList = s.toList from h1 3 (by omega)), if_neg (show ¬ sw4.toList = s.toList from h1 4 (by omega)), if_pos (show sw5.toList = s.toList from h2)]; rfl
theorem findS_miss (s : ByteArray) (h : ∀ j, j < 6 → (swAt j).toList ≠ s.toList) : findS s = 0 := by
  unfold findS
  rw [if_neg (show ¬ sw0.toList = s.toList from h 0 (by omega)), if_neg (show ¬ sw1.toList = s.toList from h 1 (by omega)), if_neg (show ¬ sw2.toList = s.toList from h 2 (by omega)), if_neg (show ¬ sw3.toList = s.toList from h 3 (by omega)), if_neg (show ¬ sw4.toList = s.toList from h 4 (by omega)), if_neg (show ¬ sw5.toList = s.toList from h 5 (by omega))]
theorem swFind (s : ByteArray) (w : World) : Calls Tryd.prog 9 #[.string s] w fun e w' => e = .returned (.int .i64 (findS s)) ∧ Below w.heap.size w w' := by
  have HN := Lib.hid swNames
  have HH := Lib.hid (findS_hit s)
  have HM := Lib.hid (findS_miss s)
  have a0 : swAt 0 = sw0 := rfl
  have a1 : swAt 1 = sw1 := rfl
  have a2 : swAt 2 = sw2 := rfl
  have a3 : swAt 3 = sw3 := rfl
  have a4 : swAt 4 = sw4 := rfl
  have a5 : swAt 5 = sw5 := rfl
  generalize swAt = sa at *
  generalize sw0 = s0 at *
  generalize sw1 = s1 at *
  generalize sw2 = s2 at *
  generalize sw3 = s3 at *
  generalize sw4 = s4 at *
  generalize sw5 = s5 at *
  have HA := Lib.hid (And.intro a0 (And.intro a1 (And.intro a2 (And.intro a3 (And.intro a4 a5)))))
  clear a0 a1 a2 a3 a4 a5
  have x0 := swIdx0
  have x1 := swIdx1
  have x2 := swIdx2
  have x3 := swIdx3
  have x4 := swIdx4
  have x5 := swIdx5
  go_enter Tryd.func9, Tryd.ntmps9
  go_wp2_with (go_at_call 22; refine (HN.out _).mono ?_; rintro e w1 ⟨rfl, hb1⟩; have HB1 := Lib.hid hb1; clear hb1)
  go_loop [6] (fun i => ∃ k : Nat, i = .int .i64 k ∧ k ≤ 6 ∧ ∀ j, j < k → (sa j).toList ≠ s.toList) (fun i => 6 - (intOf i).toNat)
  case atStart => exact ⟨0, rfl, by omega, fun j h => by omega⟩
  case round =>
    obtain ⟨k, rfl, hk, hne⟩ := hrel
    have HNE := Lib.hid hne
    clear hne
    have : k = 0 ∨ k = 1 ∨ k = 2 ∨ k = 3 ∨ k = 4 ∨ k = 5 ∨ k = 6 := by omega
    rcases this with rfl | rfl | rfl | rfl | rfl | rfl | rfl
    · by_cases he : s0.toList = s.toList
      · have hfd := HH.out 0 (by omega) HNE.out (by rw [HA.out.1]; exact he)
        have hb : (s0.toList == s.toList) = true := by simp [he]
        have HFD := Lib.hid hfd
        clear he hfd
        go_wp2_with fail
        go_ret
        exact ⟨ret_int HFD.out.symm, HB1.out⟩
      · have HHE := Lib.hid he
        have hb : (s0.toList == s.toList) = false := by simp [he]
        clear he
        go_wp2_with fail
        go_round
        case rel =>
          refine ⟨1, by go_num, by omega, fun j hj => ?_⟩
          by_cases h : j < 0
          · exact HNE.out j h
          · obtain rfl : j = 0 := by omega
            rw [HA.out.1]; exact HHE.out
        case measure => simp only [intOf]; omega
    · by_cases he : s1.toList = s.toList
      · have hfd := HH.out 1 (by omega) HNE.out (by rw [HA.out.2.1]; exact he)
        have hb : (s1.toList == s.toList) = true := by simp [he]
        have HFD := Lib.hid hfd
        clear he hfd
        go_wp2_with fail
        go_ret
        exact ⟨ret_int HFD.out.symm, HB1.out⟩
      · have HHE := Lib.hid he
        have hb : (s1.toList == s.toList) = false := by simp [he]
        clear he
        go_wp2_with fail
        go_round
        case rel =>
          refine ⟨2, by go_num, by omega, fun j hj => ?_⟩
          by_cases h : j < 1
          · exact HNE.out j h
          · obtain rfl : j = 1 := by omega
            rw [HA.out.2.1]; exact HHE.out
        case measure => simp only [intOf]; omega
    · by_cases he : s2.toList = s.toList
      · have hfd := HH.out 2 (by omega) HNE.out (by rw [HA.out.2.2.1]; exact he)
        have hb : (s2.toList == s.toList) = true := by simp [he]
        have HFD := Lib.hid hfd
        clear he hfd
        go_wp2_with fail
        go_ret
        exact ⟨ret_int HFD.out.symm, HB1.out⟩
      · have HHE := Lib.hid he
        have hb : (s2.toList == s.toList) = false := by simp [he]
        clear he
        go_wp2_with fail
        go_round
        case rel =>
          refine ⟨3, by go_num, by omega, fun j hj => ?_⟩
          by_cases h : j < 2
          · exact HNE.out j h
          · obtain rfl : j = 2 := by omega
            rw [HA.out.2.2.1]; exact HHE.out
        case measure => simp only [intOf]; omega
    · by_cases he : s3.toList = s.toList
      · have hfd := HH.out 3 (by omega) HNE.out (by rw [HA.out.2.2.2.1]; exact he)
        have hb : (s3.toList == s.toList) = true := by simp [he]
        have HFD := Lib.hid hfd
        clear he hfd
        go_wp2_with fail
        go_ret
        exact ⟨ret_int HFD.out.symm, HB1.out⟩
      · have HHE := Lib.hid he
        have hb : (s3.toList == s.toList) = false := by simp [he]
        clear he
        go_wp2_with fail
        go_round
        case rel =>
          refine ⟨4, by go_num, by omega, fun j hj => ?_⟩
          by_cases h : j < 3
          · exact HNE.out j h
          · obtain rfl : j = 3 := by omega
            rw [HA.out.2.2.2.1]; exact HHE.out
        case measure => simp only [intOf]; omega
    · by_cases he : s4.toList = s.toList
      · have hfd := HH.out 4 (by omega) HNE.out (by rw [HA.out.2.2.2.2.1]; exact he)
        have hb : (s4.toList == s.toList) = true := by simp [he]
        have HFD := Lib.hid hfd
        clear he hfd
        go_wp2_with fail
        go_ret
        exact ⟨ret_int HFD.out.symm, HB1.out⟩
      · have HHE := Lib.hid he
        have hb : (s4.toList == s.toList) = false := by simp [he]
        clear he
        go_wp2_with fail
        go_round
        case rel =>
          refine ⟨5, by go_num, by omega, fun j hj => ?_⟩
          by_cases h : j < 4
          · exact HNE.out j h
          · obtain rfl : j = 4 := by omega
            rw [HA.out.2.2.2.2.1]; exact HHE.out
        case measure => simp only [intOf]; omega
    · by_cases he : s5.toList = s.toList
      · have hfd := HH.out 5 (by omega) HNE.out (by rw [HA.out.2.2.2.2.2]; exact he)
        have hb : (s5.toList == s.toList) = true := by simp [he]
        have HFD := Lib.hid hfd
        clear he hfd
        go_wp2_with fail
        go_ret
        exact ⟨ret_int HFD.out.symm, HB1.out⟩
      · have HHE := Lib.hid he
        have hb : (s5.toList == s.toList) = false := by simp [he]
        clear he
        go_wp2_with fail
        go_round
        case rel =>
          refine ⟨6, by go_num, by omega, fun j hj => ?_⟩
          by_cases h : j < 5
          · exact HNE.out j h
          · obtain rfl : j = 5 := by omega
            rw [HA.out.2.2.2.2.2]; exact HHE.out
        case measure => simp only [intOf]; omega
    · go_wp2_with fail
      go_ret
      exact ⟨ret_int (HM.out HNE.out).symm, HB1.out⟩
section
variable (v0 v1 v2 v3 v4 : Int) (v5 : Option Addr) (n6 n7 : Nat) (v8 v9 v10 v11 v12 v13 v14 v15 : Int) (w : World)
theorem swfld_conf : (Instr.field 41 (.agg #[.int .i64 v0, .int .i64 v1, .int .i64 v2, .int .i64 v3, .int .u64 v4, .slice v5 n6 n7, .int .i64 v8, .int .i64 v9, .int .i64 v10, .int .i64 v11, .int .i64 v12, .int .i64 v13, .int .i64 v14, .int .i64 v15]) 0).run Tryd.prog w = .ok (.agg #[.int .i64 v0, .int .i64 v1, .int .i64 v2, .int .i64 v3, .int .u64 v4, .slice v5 n6 n7]) w := by kernel_rfl
theorem swfld_variant : (Instr.field 37 (.agg #[.int .i64 v0, .int .i64 v1, .int .i64 v2, .int .i64 v3, .int .u64 v4, .slice v5 n6 n7]) 0).run Tryd.prog w = .ok (.int .i64 v0) w := by kernel_rfl
end
theorem swLayout (w : World) : Calls Tryd.prog 23 #[.pointer none] w fun e w' => e = .returned (.agg #[.int .i64 0, .int .i64 0, .int .i64 0, .int .i64 0, .int .u64 0, .slice none 0 0, .int .i64 0, .int .i64 0, .int .i64 0, .int .i64 0, .int .i64 0, .int .i64 0, .int .i64 0, .int .i64 0]) ∧ Below w.heap.size w w' := by
  go_enter Tryd.func23, Tryd.ntmps23
  go_wp2_with fail
  refine bodyPost_ret (v := .agg #[.int .i64 0, .int .i64 0, .int .i64 0, .int .i64 0, .int .u64 0, .slice none 0 0, .int .i64 0, .int .i64 0, .int .i64 0, .int .i64 0, .int .i64 0, .int .i64 0, .int .i64 0, .int .i64 0]) ?_ rfl ?_
  · simp only [results, Tryd.results23]
    go_simp
  · refine ⟨rfl, ?_⟩
    repeat (with_reducible first | exact Below.refl _ _ | refine Below.setCell ?_ ?_ _ | refine Below.alloc ?_ ?_ _)
    all_goals (simp; try omega)
theorem swNew (l : Option Addr) (w : World) : Calls Tryd.prog 10 #[.pointer none, .pointer l] w fun e w' => e = .returned .nilIface ∧ Below w.heap.size w w' := by
  have HL := Lib.hid (swLayout w)
  have hf1 := swfld_conf
  have hf2 := swfld_variant
  go_enter Tryd.func10, Tryd.ntmps10
  go_wp2_with (go_at_call 23; refine HL.out.mono ?_; rintro e w1 ⟨rfl, hb1⟩; have HB1 := Lib.hid hb1; clear hb1)
  go_ret
  exact ⟨rfl, HB1.out⟩
theorem swLog (w : World) : Calls Tryd.prog 11 #[] w fun e w' => ∃ l, e = .returned (.pointer l) ∧ Below w.heap.size w w' := by
  go_enter Tryd.func11, Tryd.ntmps11
  go_wp2_with fail
  go_ret
  exact ⟨_, rfl, by (repeat (with_reducible first | exact Below.refl _ _ | refine Below.drew ?_ | refine below_drewN ?_ _ | refine Below.setCell ?_ ?_ _ | refine Below.alloc ?_ ?_ _)); all_goals first | omega | (dsimp only; omega) | (simp; omega) | simp⟩
theorem srRight32 (w : World) : Calls Tryd.prog 12 #[.int .i64 32] w fun e w' => e = .returned (.bool true) ∧ w = w' := by
  go_enter Tryd.func12, Tryd.ntmps12
  go_wp2_with fail
  go_ret
  exact ⟨rfl, rfl⟩
theorem live24 (w : World) : Calls Tryd.prog 13 #[] w fun e w' => e = .returned (.bool true) ∧ Below w.heap.size w w' := by
  have h1 : findS ⟨#[115, 116, 97, 109, 112]⟩ = 4 := by kernel_rfl
  have h2 : wordS 5 = ⟨#[108, 111, 99, 107]⟩ := by kernel_rfl
  go_enter Tryd.func13, Tryd.ntmps13
  go_wp2_with (first
    | (go_at_call 9; have hq := swFind ⟨#[115, 116, 97, 109, 112]⟩ w; rw [h1] at hq; refine hq.mono ?_; clear hq; rintro e w1 ⟨rfl, hb1⟩; have HB1 := Lib.hid hb1; clear hb1)
    | (go_at_call 5; have hq := swWord 5 w1; rw [h2] at hq; refine hq.mono ?_; clear hq; rintro e w2 ⟨rfl, hb2⟩; have HB2 := Lib.hid (HB1.out.trans (hb2.mono HB1.out.size)); clear hb2)
    | (go_at_call 7; refine (swOver 3 _).mono ?_; rintro e w' ⟨rfl, rfl⟩))
  go_ret
  exact ⟨rfl, HB2.out⟩
set_option maxRecDepth 100000 in
theorem seqsWords_any (v : Int) (s : ByteArray) (w : World) : Calls Tryd.prog 3 #[.int .i64 v, .string s] w fun e w' => e = .returned (.bool true) ∧ Below w.heap.size w w' := by
  have hn1 : ∀ x : List UInt8, (x == x) = true := fun x => by simp
  have hn2 : ∀ x : Bool, (x != x) = false := fun x => by cases x <;> rfl
  have hn3 : ∀ x : Int, (x != x) = false := fun x => by simp
  generalize hws : wordS v = ws
  have HW := Lib.hid (fun W => swWord v W)
  have HR := Lib.hid (fun W => srWord v W)
  rw [hws] at HW HR
  clear hws
  have HFI := Lib.hid (findS_zero s)
  have HK := Lib.hid (show ∀ k, 1 ≤ k ∧ k ≤ 5 → (wordS k).toList = s.toList → findS s = k from fun k hk e => by have := findS_at hk; unfold findS at this ⊢; rw [← e]; exact this)
  go_enter Tryd.func3, Tryd.ntmps3
  go_wp2_with (first
    | (go_at_call 9; refine (swFind s _).mono ?_; rintro e w3 ⟨rfl, hb3⟩; have HB3 := Lib.hid (HB2.out.trans (hb3.mono HB2.out.size)); clear hb3)
    | (go_at_call 7; refine (swOver v _).mono ?_; rintro e w' ⟨rfl, rfl⟩)
    | (go_at_call 8; refine (swLocked v _).mono ?_; rintro e w' ⟨rfl, rfl⟩)
    | (go_at_call 6; refine (HR.out _).mono ?_; rintro e w2 ⟨rfl, hb2⟩; have HB2 := Lib.hid (HB1.out.trans (hb2.mono HB1.out.size)); clear hb2)
    | (go_at_call 5; refine (HW.out _).mono ?_; rintro e w1 ⟨rfl, hb1⟩; have HB1 := Lib.hid hb1; clear hb1))
  generalize hfs : findS s = n at *
  go_loopw [6] (fun i wr => ∃ k : Nat, i = .int .i64 k ∧ 1 ≤ k ∧ k ≤ 6 ∧ Below w.heap.size w wr) (fun i _ => 6 - (intOf i).toNat)
  case atStart => exact ⟨1, rfl, by omega, by omega, HB3.out⟩
  case round =>
    obtain ⟨k, rfl, hk1, hk6, hbe⟩ := hrel
    have HBE := Lib.hid hbe
    clear hbe
    by_cases hlt : k < 6
    · have hlti : (k : Int) < 6 := by omega
      have hfk := findS_at (k := (k : Int)) ⟨by omega, by omega⟩
      have HKK := Lib.hid (HK.out (k : Int) ⟨by omega, by omega⟩)
      generalize hwk : wordS (k : Int) = wk at *
      have HRW := Lib.hid (fun W => hwk ▸ srWord (k : Int) W)
      have HFW := Lib.hid (fun W => hfk ▸ swFind wk W)
      clear hfk hwk
      by_cases he : wk.toList = s.toList
      · have hnk := HKK.out he
        subst hnk
        have heb : (wk.toList == s.toList) = true := by simp [he]
        clear he
        go_wp2_with (first
          | (go_at_call 9; refine (HFW.out _).mono ?_; rintro e w6 ⟨rfl, hb6⟩; have HB6 := Lib.hid (HB5.out.trans (hb6.mono HB5.out.size)); clear hb6)
          | (go_at_call 6; refine (HRW.out _).mono ?_; rintro e w5 ⟨rfl, hb5⟩; have HB5 := Lib.hid (HB4.out.trans (hb5.mono HB4.out.size)); clear hb5)
          | (go_at_call 6; refine (HRW.out _).mono ?_; rintro e w4 ⟨rfl, hb4⟩; have HB4 := Lib.hid (HBE.out.trans (hb4.mono HBE.out.size)); clear hb4))
        go_round
        case rel => exact ⟨k + 1, by go_num, by omega, by omega, HB6.out⟩
        case measure => simp only [intOf]; omega
      · have heb : (wk.toList == s.toList) = false := by simp [he]
        clear he
        go_wp2_with (first
          | (go_at_call 9; refine (HFW.out _).mono ?_; rintro e w6 ⟨rfl, hb6⟩; have HB6 := Lib.hid (HB5.out.trans (hb6.mono HB5.out.size)); clear hb6)
          | (go_at_call 6; refine (HRW.out _).mono ?_; rintro e w5 ⟨rfl, hb5⟩; have HB5 := Lib.hid (HB4.out.trans (hb5.mono HB4.out.size)); clear hb5)
          | (go_at_call 6; refine (HRW.out _).mono ?_; rintro e w4 ⟨rfl, hb4⟩; have HB4 := Lib.hid (HBE.out.trans (hb4.mono HBE.out.size)); clear hb4))
        go_round
        case rel => exact ⟨k + 1, by go_num, by omega, by omega, HB6.out⟩
        case measure => simp only [intOf]; omega
    · have hlti : ¬ (k : Int) < 6 := by omega
      by_cases hz : n = 0
      · subst hz
        go_wp2_with (first
          | (go_at_call 13; refine (live24 _).mono ?_; rintro e w9 ⟨rfl, hb9⟩; have HB9 := Lib.hid (HB8.out.trans (hb9.mono HB8.out.size)); clear hb9)
          | (go_at_call 12; refine (srRight32 _).mono ?_; rintro e w' ⟨rfl, rfl⟩)
          | (go_at_call 10; refine (swNew _ _).mono ?_; rintro e w8 ⟨rfl, hb8⟩; have HB8 := Lib.hid (HB7.out.trans (hb8.mono HB7.out.size)); clear hb8)
          | (go_at_call 11; refine (swLog _).mono ?_; rintro e w7 ⟨l7, rfl, hb7⟩; have HB7 := Lib.hid (HBE.out.trans (hb7.mono HBE.out.size)); clear hb7))
        go_ret
        exact ⟨rfl, HB9.out⟩
      · have hzb : (n == 0) = false := by simp [hz]
        have hwn : ((wordS n).toList == s.toList) = true := by simp [HFI.out.resolve_left hz]
        generalize hwe : wordS n = wn at *
        have HRN := Lib.hid (fun W => hwe ▸ srWord n W)
        clear hwe
        clear hz
        go_wp2_with (first
          | (go_at_call 13; refine (live24 _).mono ?_; rintro e w9 ⟨rfl, hb9⟩; have HB9 := Lib.hid (HB8.out.trans (hb9.mono HB8.out.size)); clear hb9)
          | (go_at_call 12; refine (srRight32 _).mono ?_; rintro e w' ⟨rfl, rfl⟩)
          | (go_at_call 10; refine (swNew _ _).mono ?_; rintro e w8 ⟨rfl, hb8⟩; have HB8 := Lib.hid (HB7.out.trans (hb8.mono HB7.out.size)); clear hb8)
          | (go_at_call 11; refine (swLog _).mono ?_; rintro e w7 ⟨l7, rfl, hb7⟩; have HB7 := Lib.hid (HB4.out.trans (hb7.mono HB4.out.size)); clear hb7)
          | (go_at_call 6; refine (HRN.out _).mono ?_; rintro e w4 ⟨rfl, hb4⟩; have HB4 := Lib.hid (HBE.out.trans (hb4.mono HBE.out.size)); clear hb4))
        go_ret
        exact ⟨rfl, HB9.out⟩
end Go.Proofs.YtmjpdojecdnkjaaDoor
