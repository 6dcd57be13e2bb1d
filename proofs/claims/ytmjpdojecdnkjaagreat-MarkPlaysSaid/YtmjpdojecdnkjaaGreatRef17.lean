/- Contracts of sakiaref17: marks, on the reference's board. -/
import Derived.Test.YtmjpdojecdnkjaaGreatRefB
import Derived.Test.YtmjpdojecdnkjaaGreatRefNum
import Derived.Test.YtmjpdojecdnkjaaGreatRef18
import Derived.Test.YtmjpdojecdnkjaaGreatMarkP
namespace Go.Proofs.YtmjpdojecdnkjaaGreat
open Go.RowKit
set_option linter.unusedVariables false
set_option linter.unusedSimpArgs false
set_option maxHeartbeats 2000000

section
variable (w : World) (γ : Nat → Nat) (id q : Nat) (c0 : Cf) (b : BS)
theorem r17Has (h : RefAt w γ id q c0 b) : Calls Tryz.prog 77 #[.pointer (some ⟨q, 0, none⟩)] w fun e w' => e = .returned (.bool b.hasM) ∧ w = w' := by
  obtain ⟨rc, cv, hv, lv, hF, hR⟩ := h
  have h0 : w.cell? ⟨q, 0, none⟩ = some (.int .i64 c0.variant) := hF.brd.cell 0
  have hm : b.hasM = (decide (c0.variant = 2) || decide (c0.variant = 3) || decide (c0.variant = 5)) := by
    unfold BS.hasM mkKind
    rw [← hR.variant]
    by_cases h5 : c0.variant = 5
    · simp [h5]
    · by_cases h2 : c0.variant = 2
      · simp [h2]
      · by_cases h3 : c0.variant = 3 <;> simp [h2, h3, h5]
  rw [hm]
  clear hm
  by_cases h2 : c0.variant = 2
  · clear hF hR
    go_enter Tryz.func77, Tryz.ntmps77
    go_wp2_with fail
    go_ret
    exact ⟨ret_bool (by simp [h2]), rfl⟩
  · by_cases h3 : c0.variant = 3
    · clear hF hR
      go_enter Tryz.func77, Tryz.ntmps77
      go_wp2_with fail
      go_ret
      exact ⟨ret_bool (by simp [h2, h3]), rfl⟩
    · clear hF hR
      go_enter Tryz.func77, Tryz.ntmps77
      go_wp2_with fail
      go_ret
      exact ⟨ret_bool (by by_cases h5 : c0.variant = 5 <;> simp [h2, h3, h5]), rfl⟩
def BS.rcell (b : BS) (pos : Int) : Int := b.l.cells - 2 * b.l.c.cap + slotI b.l.c.cap pos
theorem BS.Fit.rcell {M : Int} {b : BS} (h : b.Fit M) (hm : b.hasM = true) (pos : Int) : b.rcell pos = b.mcell pos := by
  have hk := h.marks hm pos
  have hc : b.l.cells = b.l.slots + b.l.c.cap := by
    have e := h.lay
    rw [e, mkLay_c]
    exact (mkLay_cells h.cap).2
  unfold BS.rcell
  omega
theorem r17Cell (h : RefAt w γ id q c0 b) {M : Int} (hf : b.Fit M) (pos : Int) (hp : 0 ≤ pos ∧ pos ≤ 18446744073709551615) : Calls Tryz.prog 140 #[.pointer (some ⟨q, 0, none⟩), .int .u64 pos] w fun e w' => e = .returned (.int .i64 (b.rcell pos)) ∧ ∃ n, w' = w.drewN n := by
  obtain ⟨rc, cv, hv, lv, hF, hR⟩ := h
  have h2 : w.cell? ⟨q, 2, none⟩ = some (.int .i64 c0.cap) := hF.brd.cell 2
  have h6 : w.cell? ⟨q, 6, none⟩ = some cv := hF.brd.cell 6
  obtain ⟨A1, c1, rfl, _⟩ := own_form hF.cel.1
  have hcap : Cap2 c0.cap := by rw [hR.cap]; exact hf.cap
  have hcb := hcap.bd
  have hsb := slotI_bd (x := pos) hcap
  have hlen : (rc.length : Int) ≤ 300 := by
    have h1 := hR.len
    have e : b.l.cells = b.l.slots + b.l.c.cap := by
      rw [hf.lay, mkLay_c]; exact (mkLay_cells hf.cap).2
    have h3 := (mkLay_bd (c := b.l.c) hf.un.2 hf.cap).slots
    rw [← hf.lay] at h3
    have h4 := hR.cap
    omega
  have he : b.rcell pos = (rc.length : Int) - 2 * c0.cap + slotI c0.cap pos := by unfold BS.rcell; rw [← hR.len, ← hR.cap]
  rw [he]
  have hw1 : wrap64 (2 * c0.cap) = 2 * c0.cap := wrap64_id (by omega)
  have hw2 : wrap64 ((rc.length : Int) - 2 * c0.cap) = (rc.length : Int) - 2 * c0.cap := wrap64_id (by omega)
  have hw3 : wrap64 ((rc.length : Int) - 2 * c0.cap + slotI c0.cap pos) = (rc.length : Int) - 2 * c0.cap + slotI c0.cap pos := wrap64_id (by omega)
  have hy1 : IntKind.i64.wrap (2 * c0.cap) = 2 * c0.cap := by simp [IntKind.wrap, IntKind.bits, IntKind.signed]; omega
  have hy2 : IntKind.i64.wrap ((rc.length : Int) - 2 * c0.cap) = (rc.length : Int) - 2 * c0.cap := by simp [IntKind.wrap, IntKind.bits, IntKind.signed]; omega
  have hy3 : IntKind.i64.wrap ((rc.length : Int) - 2 * c0.cap + slotI c0.cap pos) = (rc.length : Int) - 2 * c0.cap + slotI c0.cap pos := by simp [IntKind.wrap, IntKind.bits, IntKind.signed]; omega
  have HC := Lib.hid (And.intro hcap hp)
  generalize rc.length = ln at *
  clear hF hR hf he hcap hp hsb
  go_enter Tryz.func140, Tryz.ntmps140
  go_wp2_with fail
  go_quiet ((go_at_call 171; exact quiet_left (rslotI _ _ HC.out.1 HC.out.2 _)))
  go_wp2_with fail
  go_ret
  exact ⟨rfl, _, rfl⟩
theorem r17Marked (h : RefAt w γ id q c0 b) {M : Int} (hf : b.Fit M) (pos : Int) (hp : 0 ≤ pos ∧ pos ≤ 18446744073709551615) : Calls Tryz.prog 84 #[.pointer (some ⟨q, 0, none⟩), .int .u64 pos] w fun e w' => e = .returned (.bool (b.marked pos)) ∧ ∃ n, w' = w.drewN n := by
  have HCE := Lib.hid (fun W (hW : Below w.heap.size w W) => r17Cell W γ id q c0 b (h.below hW) hf pos hp)
  have HHA := Lib.hid (fun W (hW : Below w.heap.size w W) => r17Has W γ id q c0 b (h.below hW))
  have HRO := Lib.hid (And.intro hf.cap hp)
  by_cases hm : b.hasM = true
  · obtain ⟨hmc, h0, hsl, hkd⟩ := hf.marks hm pos
    obtain ⟨n, hn, hlt, hin⟩ := hf.ok.cell (k := b.mcell pos) (by rw [hkd]; split <;> first | exact .inr rfl | exact .inl rfl)
    have hrc := hf.rcell hm pos
    obtain ⟨rc, cv, hv, lv, hF, hR⟩ := h
    have hh1 : n < (hasOf b).length := by unfold hasOf; rw [List.length_append]; omega
    have h2 : w.cell? ⟨q, 2, none⟩ = some (.int .i64 c0.cap) := hF.brd.cell 2
    have h7 : w.cell? ⟨q, 7, none⟩ = some hv := hF.brd.cell 7
    obtain ⟨g, cap, rfl, hgl, hg1, _⟩ := row_at hF.has.1 hh1
    rw [show (hasOf b).getD n 0 = b.at_ (b.mcell pos) by rw [hn]; simp [hasOf, BS.at_, List.getD_eq_getElem?_getD, List.getElem?_append_left hlt]] at hg1
    have hi1 : (n : Int) < (hasOf b).length := by omega
    have hmk : b.marked pos = decide (b.at_ (b.mcell pos) = roundI c0.cap pos) := by unfold BS.marked; rw [hm]; unfold BS.mround; rw [hR.cap]; rfl
    rw [hmk]
    rw [hrc, hn] at HCE
    rw [hm] at HHA
    rw [show b.l.c.cap = c0.cap from hR.cap.symm] at HRO
    generalize b.at_ (b.mcell pos) = x at *
    clear hF hR hf hmc h0 hsl hkd hn hlt hin hrc hh1 hmk hp
    go_enter Tryz.func84, Tryz.ntmps84
    go_wp2_with (go_at_call 140; refine (HCE.out _ (by repeat (with_reducible first | exact Below.refl _ _ | refine Below.drew ?_ | refine below_drewN ?_ _ | refine Below.alloc ?_ (by simp) _))).mono ?_; rintro e w1 ⟨rfl, n1, rfl⟩)
    go_quiet (first | (go_at_call 77; exact quiet_add_left (HHA.out _ (by repeat (with_reducible first | exact Below.refl _ _ | refine Below.drew ?_ | refine below_drewN ?_ _ | refine Below.alloc ?_ (by simp) _)))) | (go_at_call 141; exact quiet_add_left (rroundI _ _ HRO.out.1 HRO.out.2 _)))
    go_wp2_with fail
    go_ret
    exact ⟨ret_bool (by first | rfl | (by_cases h9 : x = roundI c0.cap pos <;> simp [h9])), n1 + nq, World.drewN_drewN _ _ _⟩
  · have hm2 : b.hasM = false := by cases hh : b.hasM <;> simp_all
    have hmk : b.marked pos = false := by unfold BS.marked; rw [hm2]; rfl
    rw [hmk]
    rw [hm2] at HHA
    clear h hf hm hmk
    go_enter Tryz.func84, Tryz.ntmps84
    go_wp2_with (go_at_call 140; refine (HCE.out _ (by repeat (with_reducible first | exact Below.refl _ _ | refine Below.drew ?_ | refine below_drewN ?_ _ | refine Below.alloc ?_ (by simp) _))).mono ?_; rintro e w1 ⟨rfl, n1, rfl⟩)
    go_quiet ((go_at_call 77; exact quiet_add_left (HHA.out _ (by repeat (with_reducible first | exact Below.refl _ _ | refine Below.drew ?_ | refine below_drewN ?_ _ | refine Below.alloc ?_ (by simp) _)))))
    go_wp2_with fail
    go_ret
    exact ⟨rfl, n1 + nq, World.drewN_drewN _ _ _⟩
end
end Go.Proofs.YtmjpdojecdnkjaaGreat
