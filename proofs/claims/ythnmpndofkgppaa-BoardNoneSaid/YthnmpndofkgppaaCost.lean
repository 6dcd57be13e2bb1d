/- board.Cost: how many accesses of a thread changed nothing, and how many did. -/
import Derived.Test.YthnmpndofkgppaaPair
import Derived.Test.YthnmpndofkgppaaBoard3
namespace Go.Proofs.Ythnmpndofkgppaa
open Go.RowKit
set_option linter.unusedVariables false
set_option linter.unusedSimpArgs false
set_option maxHeartbeats 2000000

/-- the counts of the first k accesses -/
def costN (log : List Acc) (t : Int) : Nat → Nat × Nat
  | 0 => (0, 0)
  | k + 1 => match log[k]? with
    | some a => if a.thread = t then (if lookK a.kind then ((costN log t k).1 + 1, (costN log t k).2) else ((costN log t k).1, (costN log t k).2 + 1)) else costN log t k
    | none => costN log t k
theorem costN_le (log : List Acc) (t : Int) : ∀ k, (costN log t k).1 + (costN log t k).2 ≤ k
  | 0 => Nat.le_refl _
  | k + 1 => by
    have h := costN_le log t k
    unfold costN
    split
    · split
      · split <;> dsimp only <;> omega
      · omega
    · omega
theorem costN_next {log : List Acc} {k : Nat} {a : Acc} (h : log[k]? = some a) (t : Int) : costN log t (k + 1) = if a.thread = t then (if lookK a.kind then ((costN log t k).1 + 1, (costN log t k).2) else ((costN log t k).1, (costN log t k).2 + 1)) else costN log t k := by
  show (match log[k]? with | some a => if a.thread = t then (if lookK a.kind then ((costN log t k).1 + 1, (costN log t k).2) else ((costN log t k).1, (costN log t k).2 + 1)) else costN log t k | none => costN log t k) = _
  rw [h]
theorem pr_ex (a b : Nat) (ha : a < 210) (hb : b < 210) : ∃ x y, PrIs a b x y := ⟨_, _, ha, hb, rfl, rfl⟩
theorem bCost32 (w : World) (γ : Nat → Nat) (id p : Nat) (b : BS) (h : BoardAt 68 36 92 .u32 w γ id p b) (hlen : b.log.length ≤ 200) (t : Int) :
    Calls Try.prog 22 #[.pointer (some ⟨p, 0, none⟩), .int .i64 t] w fun e w' => ∃ x y, PrIs (costN b.log t b.log.length).1 (costN b.log t b.log.length).2 x y ∧ e = .returned (.complex .f64 x y) ∧ Below w.heap.size w w' := by
  obtain ⟨cv, dv, lv, hF⟩ := h
  have hq : w.cell? ⟨p, 16, none⟩ = some lv := hF.brd.cell 16
  obtain ⟨A, c, rfl, _⟩ := own_form hF.log.1
  have HRD := Lib.hid (Reads.of_own hF.log.1)
  generalize b.log = log at *
  have HZ := Lib.hid (show PrIs (costN log t 0).1 (costN log t 0).2 0 0 from ⟨by show 0 < 210; omega, by show 0 < 210; omega, fl_zero, fl_zero⟩)
  clear hF
  go_enter Try.func22, Try.ntmps22
  go_wp2_with fail
  go_loopw [16, 5] (fun i s wr => ∃ (k x y : Nat), i = .int .i64 k ∧ k ≤ log.length ∧ s = .complex .f64 x y ∧ PrIs (costN log t k).1 (costN log t k).2 x y ∧ Below w.heap.size w wr) (fun i _ _ => log.length - (intOf i).toNat)
  case atStart => exact ⟨0, 0, 0, rfl, by omega, rfl, HZ.out, Below.refl _ _⟩
  case round =>
    obtain ⟨k, x, y, rfl, hk, rfl, hpr, hbe⟩ := hrel
    have HBE := Lib.hid hbe
    have hbz := hbe.size
    by_cases hlt : k < log.length
    · have hlti : (k : Int) < log.length := by omega
      have hg := List.getElem?_eq_getElem hlt
      generalize log[k] = a at hg
      obtain ⟨g, o, rfl, c0, c1, c2, c3, c4⟩ := acc_cells (HRD.out.below hbe) hg
      have hnx := costN_next hg t
      have hle := costN_le log t k
      obtain ⟨th, kd, ce, od, nw⟩ := a
      dsimp only at *
      by_cases hth : th = t
      · subst hth
        rw [if_pos rfl] at hnx
        obtain ⟨u, v, hw⟩ := pr_ex (if lookK kd then 1 else 0) (if lookK kd then 0 else 1) (by split <;> omega) (by split <;> omega)
        have hs1 : (costN log th (k + 1)).1 = (costN log th k).1 + (if lookK kd then 1 else 0) := by rw [hnx]; split <;> rfl
        have hs2 : (costN log th (k + 1)).2 = (costN log th k).2 + (if lookK kd then 0 else 1) := by rw [hnx]; split <;> rfl
        obtain ⟨p', q', hpq⟩ := pr_ex (costN log th (k + 1)).1 (costN log th (k + 1)).2 (by have := costN_le log th (k + 1); omega) (by have := costN_le log th (k + 1); omega)
        have HPQ := Lib.hid hpq
        have HSU := Lib.hid (fun g cap W hc0 hc1 => pSum hpr hw (by rw [← hs1, ← hs2]; exact hpq) (by split <;> rfl) g cap W hc0 hc1)
        have HWT := Lib.hid (fun W => bweight kd hw W)
        clear hpq hs1 hs2 hnx hle hg hpr hw
        go_wp2_with (first
          | (go_at_call 58; refine (HWT.out _).mono ?_; rintro e w' ⟨rfl, rfl⟩)
          | (go_at_call 57; refine (HSU.out _ _ _ (by simp) (by simp)).mono ?_; rintro e w' ⟨rfl, rfl⟩))
        go_round
        case rel => exact ⟨k + 1, p', q', by go_num, by omega, rfl, HPQ.out, by (repeat (with_reducible first | exact HBE.out | refine Below.drew ?_ | refine below_drewN ?_ _ | refine Below.setCell ?_ ?_ _ | refine Below.alloc ?_ ?_ _)); all_goals first | omega | (dsimp only; omega) | (simp; omega)⟩
        case measure => simp only [intOf]; omega
      · rw [if_neg hth] at hnx
        have htb : (th == t) = false := by simp [hth]
        have HPQ := Lib.hid (show PrIs (costN log t (k + 1)).1 (costN log t (k + 1)).2 x y by rw [hnx]; exact hpr)
        clear hnx hle hg hpr hth
        go_wp2_with fail
        go_round
        case rel => exact ⟨k + 1, x, y, by go_num, by omega, rfl, HPQ.out, by (repeat (with_reducible first | exact HBE.out | refine Below.drew ?_ | refine below_drewN ?_ _ | refine Below.setCell ?_ ?_ _ | refine Below.alloc ?_ ?_ _)); all_goals first | omega | (dsimp only; omega) | (simp; omega)⟩
        case measure => simp only [intOf]; omega
    · obtain rfl : k = log.length := by omega
      go_wp2_with fail
      go_ret
      exact ⟨x, y, hpr, rfl, HBE.out⟩
end Go.Proofs.Ythnmpndofkgppaa
