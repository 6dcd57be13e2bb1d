/- Plain: what is published from the start on is found, and no more. No program, no memory. -/
import Derived.Test.YthnmpndofkgppaaMarkS
import Derived.Test.YthnmpndofkgppaaRefNum
namespace Go.Proofs.Ythnmpndofkgppaa
open Go.RowKit
set_option linter.unusedVariables false
set_option linter.unusedSimpArgs false

theorem slot_add {M c p : Int} {i j : Int} (hM : M = M32 ∨ M = M64) (hc : Cap2 c) (hi : 0 ≤ i ∧ i < c) (hj : 0 ≤ j ∧ j < c) (hne : i ≠ j) : slotI c (addM M p i) ≠ slotI c (addM M p j) := by
  rcases hM with rfl | rfl <;> rcases hc with rfl | rfl | rfl | rfl | rfl | rfl <;> simp only [slotI, addM, M32, M64] <;> omega
theorem slot_wrap {M c p : Int} (hM : M = M32 ∨ M = M64) (hc : Cap2 c) : slotI c (addM M p c) = slotI c (addM M p 0) := by
  rcases hM with rfl | rfl <;> rcases hc with rfl | rfl | rfl | rfl | rfl | rfl <;> simp only [slotI, addM, M32, M64] <;> omega
theorem round_wrap {M c p : Int} (hM : M = M32 ∨ M = M64) (hc : Cap2 c) : roundI c (addM M p c) ≠ roundI c (addM M p 0) := by
  rcases hM with rfl | rfl <;> rcases hc with rfl | rfl | rfl | rfl | rfl | rfl <;> simp only [roundI, addM, M32, M64] <;> omega
theorem ahead_not {M c x k : Int} (hM : M = M32 ∨ M = M64) (hc : Cap2 c) (hk : 0 ≤ k ∧ k < c) : aheadI M c (slotI c (addM M x k)) x ≠ roundI c (addM M x k) := by
  have hs := slotI_bd (x := addM M x k) hc
  have hk2 := (first_hit hM hc (s := slotI c (addM M x k)) (x := x) (k := k) hs hk).1 rfl
  unfold aheadI firstI
  rw [← hk2]
  rcases hM with rfl | rfl <;> rcases hc with rfl | rfl | rfl | rfl | rfl | rfl <;> simp only [roundI, addM, M32, M64] <;> omega
section
variable {M p : Int} {b : BS} {n : Nat}
/-- the first n positions from p on are marked, the others of a round are not -/
structure Upto (M : Int) (b : BS) (p : Int) (n : Nat) : Prop where
  fit : b.Fit M
  has : b.hasM = true
  yes : ∀ i : Nat, i < n → b.marked (addM M p i) = true
  no : ∀ i : Nat, n ≤ i → (i : Int) < b.l.c.cap → b.marked (addM M p i) = false
theorem Upto.lay (h : Upto M b p n) (hn : (n : Int) < b.l.c.cap) (t : Int) : Upto M (b.mlay t (addM M p n)) p (n + 1) := by
  have hM := h.fit.M2
  have hc := h.fit.cap
  refine ⟨h.fit.mlay t (addM_in hM _ _), h.fit.mlay_hasM h.has _ _, fun i hi => ?_, fun i hi hic => ?_⟩
  · rw [h.fit.marked_mlay h.has]
    by_cases hin : i = n
    · subst hin; rw [if_pos rfl]; simp
    · rw [if_neg (slot_add hM hc ⟨by omega, by omega⟩ ⟨by omega, hn⟩ (by omega))]
      exact h.yes i (by omega)
  · rw [h.fit.mlay_l h.has] at hic
    rw [h.fit.marked_mlay h.has, if_neg (slot_add hM hc ⟨by omega, hic⟩ ⟨by omega, hn⟩ (by omega))]
    exact h.no i (by omega) hic
theorem Upto.next (h : Upto M b p n) (hn : (n : Int) = b.l.c.cap) (h0 : 0 < n) : b.marked (addM M p n) = false := by
  have hM := h.fit.M2
  have hc := h.fit.cap
  have h1 := h.yes 0 h0
  unfold BS.marked BS.mround at h1 ⊢
  rw [h.has] at h1 ⊢
  simp only [Bool.true_and, decide_eq_true_eq, decide_eq_false_iff_not] at h1 ⊢
  have e : b.mcell (addM M p n) = b.mcell (addM M p (0 : Nat)) := by unfold BS.mcell; rw [hn, slot_wrap hM hc]; rfl
  rw [e, h1, hn]
  exact fun he => round_wrap (p := p) hM hc he.symm
end
theorem marked_new {c : Cf} {M : Int} (hf : (newBS (mkLay c)).Fit M) (hm : (newBS (mkLay c)).hasM = true) (hv : c.variant ≠ 4) {k : Nat} (hk : (k : Int) < c.cap) : (newBS (mkLay c)).marked (addM M (startI c) k) = false := by
  have hM := hf.M2
  have hcap : Cap2 c.cap := by have := hf.cap; rw [show (newBS (mkLay c)).l.c = c from mkLay_c c] at this; exact this
  obtain ⟨h1, h2, h3, h4⟩ := hf.marks hm (addM M (startI c) k)
  have hc : (newBS (mkLay c)).l.c = c := mkLay_c c
  have hl : (newBS (mkLay c)).l = mkLay c := rfl
  have hs := slotI_bd (x := addM M (startI c) k) hcap
  rw [hc] at h1 h3
  rw [hl] at h1 h2 h3
  have hcb := hcap.bd
  have hcells := (mkLay_cells hcap).2
  unfold BS.marked BS.mround
  rw [hm]
  simp only [Bool.true_and, decide_eq_false_iff_not]
  rw [hc, h1]
  have hat := newBS_at (mkLay c) ((mkLay c).marks + slotI c.cap (addM M (startI c) k)).toNat (by omega)
  unfold BS.at_
  rw [List.getD_eq_getElem?_getD, hat]
  have hfirst : (mkLay c).first ((((mkLay c).marks + slotI c.cap (addM M (startI c) k)).toNat : Nat) : Int) = aheadI (MW c.width) c.cap (slotI c.cap (addM M (startI c) k)) (startI c) := by
    rw [Int.toNat_of_nonneg (by omega)]
    have htk : (mkLay c).marks + slotI c.cap (addM M (startI c) k) ≠ (mkLay c).ticket ∧ (mkLay c).marks + slotI c.cap (addM M (startI c) k) ≠ (mkLay c).serving := by
      have hun := hf.un
      rw [hc] at hun
      unfold mkLay at *
      split
      · rename_i hv1; simp [hv1] at h2
      · split
        · dsimp only; omega
        · dsimp only at *; omega
    unfold Lay.first
    rw [if_neg (by omega), if_neg (by omega), mkLay_c, if_neg hv]
    congr 1
    omega
  rw [show (some ((mkLay c).first ((((mkLay c).marks + slotI c.cap (addM M (startI c) k)).toNat : Nat) : Int))).getD 0 = _ from hfirst]
  have hw : MW c.width = M := by have := hf.wd; rw [hc] at this; exact this
  rw [hw]
  exact ahead_not hM hcap ⟨by omega, hk⟩
theorem Upto.new {c : Cf} {M : Int} (hf : (newBS (mkLay c)).Fit M) (hm : (newBS (mkLay c)).hasM = true) (hv : c.variant ≠ 4) : Upto M (newBS (mkLay c)) (startI c) 0 :=
  ⟨hf, hm, fun i hi => by omega, fun i _ hi => marked_new hf hm hv (by rw [show (newBS (mkLay c)).l.c = c from mkLay_c c] at hi; exact hi)⟩
end Go.Proofs.Ythnmpndofkgppaa
