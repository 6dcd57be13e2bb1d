/- Contracts of sakiaref17 on registers: Publish, Seek, Prefix, on the reference's board. -/
import Derived.Test.YtmjpdojecdnkjaaGreatRef17
import Derived.Test.YtmjpdojecdnkjaaGreatMarkS
import Derived.Test.YtmjpdojecdnkjaaGreatMark3
namespace Go.Proofs.YtmjpdojecdnkjaaGreat
open Go.RowKit
set_option linter.unusedVariables false
set_option linter.unusedSimpArgs false
set_option maxHeartbeats 2000000

section
variable (w : World) (γ : Nat → Nat) (id q : Nat) (c0 : Cf) (b : BS)
theorem RefAt.drewN {w : World} {γ : Nat → Nat} {id q : Nat} {c0 : Cf} {b : BS} (h : RefAt w γ id q c0 b) (n : Nat) : RefAt (w.drewN n) γ id q c0 b := h.below (below_drewN (Below.refl _ _) n)
/-- laying a mark, by an access of its kind -/
theorem r17lay (h : RefAt w γ id q c0 b) {M : Int} (hf : b.Fit M) (hlen : b.log.length ≤ 1000000) (hm : b.hasM = true) (t p : Int) (hp : InM M p) :
    (c0.variant = 5 ∧ ∀ W, Below w.heap.size w W → Calls Tryz.prog 66 #[.pointer (some ⟨q, 0, none⟩), .int .i64 t, .int .i64 (b.rcell p), .int .u64 (roundI c0.cap p)] W (RMutEnd W (Lab1 w γ id) id q c0 (.tuple #[]) (b.mlay t p))) ∨
    (c0.variant ≠ 5 ∧ ∀ W, Below w.heap.size w W → Calls Tryz.prog 61 #[.pointer (some ⟨q, 0, none⟩), .int .i64 t, .int .i64 (b.rcell p), .int .u64 (roundI c0.cap p)] W (RMutEnd W (Lab1 w γ id) id q c0 (.tuple #[]) (b.mlay t p))) := by
  have hR : RefAt w γ id q c0 b := h
  obtain ⟨rc, cv, hv, lv, hF, hR0⟩ := hR
  have e1 := hf.rcell hm p
  have hr : roundI c0.cap p = b.mround p := by rw [hR0.cap]; rfl
  rw [e1, hr]
  unfold BS.mlay
  unfold BS.hasM mkKind at hm
  unfold mkKind
  rw [← hR0.variant] at hm ⊢
  by_cases h5 : c0.variant = 5
  · refine .inl ⟨h5, fun W hW => ?_⟩
    rw [if_pos h5, if_pos rfl]
    exact rWrite W _ id q c0 b (h.locals hW) hf.ok hlen t _ _
  · refine .inr ⟨h5, fun W hW => ?_⟩
    rw [if_neg h5, if_neg (by split <;> decide)]
    exact rStore W _ id q c0 b (h.locals hW) hf.ok hlen t _ _
theorem r17look (h : RefAt w γ id q c0 b) {M : Int} (hf : b.Fit M) (hlen : b.log.length ≤ 1000000) (hm : b.hasM = true) (t p : Int) : ∃ v,
    (b.mlook t p).1 = decide (v = roundI c0.cap p) ∧
    ((c0.variant = 5 ∧ ∀ W, Below w.heap.size w W → Calls Tryz.prog 65 #[.pointer (some ⟨q, 0, none⟩), .int .i64 t, .int .i64 (b.rcell p)] W (RMutEnd W (Lab1 w γ id) id q c0 (.int .u64 v) (b.mlook t p).2)) ∨
     (c0.variant ≠ 5 ∧ ∀ W, Below w.heap.size w W → Calls Tryz.prog 60 #[.pointer (some ⟨q, 0, none⟩), .int .i64 t, .int .i64 (b.rcell p)] W (RMutEnd W (Lab1 w γ id) id q c0 (.int .u64 v) (b.mlook t p).2))) := by
  have hR : RefAt w γ id q c0 b := h
  obtain ⟨rc, cv, hv, lv, hF, hR0⟩ := hR
  have e1 := hf.rcell hm p
  have hr : roundI c0.cap p = b.mround p := by rw [hR0.cap]; rfl
  rw [e1, hr]
  unfold BS.mlook
  unfold BS.hasM mkKind at hm
  unfold mkKind
  rw [← hR0.variant] at hm ⊢
  by_cases h5 : c0.variant = 5
  · rw [if_pos h5, if_pos rfl]
    exact ⟨_, rfl, .inl ⟨h5, fun W hW => rRead W _ id q c0 b (h.locals hW) hf.ok hlen t _⟩⟩
  · rw [if_neg h5, if_neg (by split <;> decide)]
    exact ⟨_, rfl, .inr ⟨h5, fun W hW => rLoad W _ id q c0 b (h.locals hW) hf.ok hlen t _⟩⟩
theorem r17Publish (h : RefAt w γ id q c0 b) {M : Int} (hf : b.Fit M) (hlen : b.log.length ≤ 1000000) (hwd : c0.width = 32 ∨ c0.width = 64) (hM : M = MW c0.width) (t : Int) (f : FrS) (hfrom : InM M f.from_) (hn : f.n ≤ 9223372036854775807) :
    Calls Tryz.prog 138 #[.pointer (some ⟨q, 0, none⟩), .int .i64 t, .agg (f.vs .u64).toArray] w
      (RMutEnd w γ id q c0 (.tuple #[.agg ((publishP M b t f).2.2.vs .u64).toArray, .bool (publishP M b t f).1]) (publishP M b t f).2.1) := by
  have HH := Lib.hid (fun W (hW : Below w.heap.size w W) => r17Has W γ id q c0 b (h.below hW))
  have H := Lib.hid h
  unfold publishP
  by_cases hm : b.hasM = false
  · rw [if_pos hm]
    rw [hm] at HH
    obtain ⟨op, n, phase, pc, i, j, from_, min, val, own, da, dn, dc⟩ := f
    unfold FrS.vs
    dsimp only
    clear hm h hf
    go_enter Tryz.func138, Tryz.ntmps138
    go_wp2_with ((go_at_call 77; refine (HH.out _ (by repeat (with_reducible first | exact Below.refl _ _ | refine Below.drew ?_ | refine below_drewN ?_ _ | refine Below.alloc ?_ (by simp) _))).mono ?_; rintro e w1 ⟨rfl, rfl⟩))
    refine bodyPost_ret (v := .tuple #[.agg #[.int .i64 op, .int .i64 n, .int .i64 phase, .int .i64 pc, .int .i64 i, .int .i64 j, .int .u64 from_, .int .u64 min, .int .u64 val, .int .u64 own, .slice da dn dc], .bool true]) ?_ rfl ?_
    · simp only [results, Tryz.results138]
      go_simp
    · refine ⟨rfl, γ, H.out.below ?_, Fr.of_below ?_ _ _⟩
      all_goals (repeat (with_reducible first | exact Below.refl _ _ | refine Below.drew ?_ | refine below_drewN ?_ _ | refine Below.setCell ?_ ?_ _ | refine Below.alloc ?_ ?_ _))
      all_goals (simp; try omega)

  · rw [if_neg hm]
    have hm1 : b.hasM = true := by simpa using hm
    rw [hm1] at HH
    have hq0 : ∃ pr, w.cell? ⟨q, 1, none⟩ = some (.int .i64 c0.width) ∧ w.cell? ⟨q, 0, none⟩ = some (.int .i64 c0.variant) ∧ w.cell? ⟨q, 2, none⟩ = some (.int .i64 c0.cap) ∧ q < w.heap.size ∧ pr = 0 := by
      obtain ⟨rc, cv, hv, lv, hF, hR⟩ := h
      exact ⟨0, hF.brd.cell 1, hF.brd.cell 0, hF.brd.cell 2, hF.brd.lt, rfl⟩
    obtain ⟨_, hq1, hqv, hq2, hql, _⟩ := hq0
    by_cases hin : f.inside
    · rw [if_pos hin]
      have hpin : InM M (addM M f.from_ f.i) := addM_in hf.M2 _ _
      have hu : ∀ x, InM M x → 0 ≤ x ∧ x ≤ 18446744073709551615 := fun x hx => inM_u hf.M2 hx
      have hcap : Cap2 c0.cap := by obtain ⟨_, _, _, _, _, hR⟩ := h; rw [hR.cap]; exact hf.cap
      have HPL := Lib.hid (fun W => rplus c0.width f.from_ f.i hwd (hu _ hfrom) W)
      rw [← hM] at HPL
      have HCE := Lib.hid (fun W (hW : Below w.heap.size w W) => r17Cell W γ id q c0 b (h.below hW) hf _ (hu _ hpin))
      have HRO := Lib.hid (fun W => rroundI c0.cap _ hcap (hu _ hpin) W)
      have hlay := r17lay w γ id q c0 b h hf hlen hm1 t _ hpin
      obtain ⟨op, n, phase, pc, i, j, from_, min, val, own, da, dn, dc⟩ := f
      unfold FrS.inside at hin
      unfold FrS.vs
      dsimp only at *
      generalize addM M from_ i = p at *
      have hi0 := hin.1
      have hi1 := hin.2
      have hw : wrap64 (i + 1) = i + 1 := wrap64_id (by omega)
      have hy : IntKind.i64.wrap (i + 1) = i + 1 := by simp [IntKind.wrap, IntKind.bits, IntKind.signed]; omega
      have hi3 : (0 : Int) ≤ i + 1 := by omega
      clear hin hm h hf hlen hpin hu hcap hM
      by_cases hnx : i + 1 < n
      · rw [if_pos hnx]
        dsimp only
        rcases hlay with ⟨h5, HM⟩ | ⟨h5, HM⟩
        all_goals (have HM := Lib.hid HM)
        · go_enter Tryz.func138, Tryz.ntmps138
          go_wp2_with ((go_at_call 77; refine (HH.out _ (by repeat (with_reducible first | exact Below.refl _ _ | refine Below.drew ?_ | refine below_drewN ?_ _ | refine Below.alloc ?_ (by simp) _))).mono ?_; rintro e w1 ⟨rfl, rfl⟩))
          go_quiet (first | (go_at_call 79; exact quiet_left (HPL.out _)))
          go_wp2_with fail
          go_region_with (first
            | (go_at_call 140; refine (HCE.out _ (by repeat (with_reducible first | exact Below.refl _ _ | refine Below.drew ?_ | refine below_drewN ?_ _ | refine Below.alloc ?_ (by simp) _))).mono ?_; rintro e w' ⟨rfl, n9, rfl⟩)
            | (go_at_call 141; refine (HRO.out _).mono ?_; rintro e w' ⟨rfl, rfl⟩)
            | (go_at_call 66
               refine (HM.out _ (by repeat (with_reducible first | exact Below.refl _ _ | refine Below.drew ?_ | refine below_drewN ?_ _ | refine Below.alloc ?_ (by simp) _))).mono ?_
               rintro e w3 ⟨rfl, γ', hB, hfr⟩
               have hfr2 := Fr.locals (by repeat (with_reducible first | exact Below.refl _ _ | refine Below.drew ?_ | refine below_drewN ?_ _ | refine Below.alloc ?_ (by simp) _)) hfr
               have k1 := hfr.block_ ((Blk.new w 75 _).alloc _) (Lab1.new (Nat.le_refl _))
               have k2 := hfr.block_ (heap_alloc_sndB w _ _ 75) (Lab1.new (Nat.le_succ _))
               have L1 := Lib.hid (Lab1.eq hfr (Nat.le_refl _) ((Blk.new w 75 _).alloc _).lt)
               have L2 := Lib.hid (Lab1.eq hfr (Nat.le_succ _) (heap_alloc_sndB w _ _ 75).lt)
               have u1 := k1.lt
               have u2 := k2.lt
               have f1 := k1.frozen
               have f2 := k2.frozen
               obtain ⟨a0, a1, a2, a3, a4, a5, a6, a7, a8, a9, a10⟩ := blk_cells11 k1
               obtain ⟨z0, z1, z2, z3, z4, z5, z6, z7, z8, z9, z10⟩ := blk_cells11 k2
               have HB := Lib.hid (And.intro hB hfr2)
               clear hB hfr hfr2 k1 k2))
          all_goals go_wp2_with fail
          all_goals refine bodyPost_ret (v := .tuple #[.agg #[.int .i64 op, .int .i64 n, .int .i64 phase, .int .i64 pc, .int .i64 (i + 1), .int .i64 j, .int .u64 from_, .int .u64 min, .int .u64 val, .int .u64 own, .slice da dn dc], .bool false]) ?_ rfl ?_
          all_goals first
            | (simp only [results, Tryz.results138]; go_simp; done)
            | (refine ⟨rfl, γ', ?_, ?_⟩
               · repeat (with_reducible first | exact HB.out.1 | refine RefAt.drewN ?_ _ | refine RefAt.far L1.out _ _ ?_ | refine RefAt.far L2.out _ _ ?_)
               · repeat (with_reducible first | exact HB.out.2 | refine Fr.drewN ?_ _ | refine Fr.local_ (Nat.le_refl _) _ _ ?_ | refine Fr.local_ (Nat.le_succ _) _ _ ?_))

        · have h5b : (c0.variant == 5) = false := by simp [h5]
          go_enter Tryz.func138, Tryz.ntmps138
          go_wp2_with ((go_at_call 77; refine (HH.out _ (by repeat (with_reducible first | exact Below.refl _ _ | refine Below.drew ?_ | refine below_drewN ?_ _ | refine Below.alloc ?_ (by simp) _))).mono ?_; rintro e w1 ⟨rfl, rfl⟩))
          go_quiet (first | (go_at_call 79; exact quiet_left (HPL.out _)))
          go_wp2_with fail
          go_region_with (first
            | (go_at_call 140; refine (HCE.out _ (by repeat (with_reducible first | exact Below.refl _ _ | refine Below.drew ?_ | refine below_drewN ?_ _ | refine Below.alloc ?_ (by simp) _))).mono ?_; rintro e w' ⟨rfl, n9, rfl⟩)
            | (go_at_call 141; refine (HRO.out _).mono ?_; rintro e w' ⟨rfl, rfl⟩)
            | (go_at_call 61
               refine (HM.out _ (by repeat (with_reducible first | exact Below.refl _ _ | refine Below.drew ?_ | refine below_drewN ?_ _ | refine Below.alloc ?_ (by simp) _))).mono ?_
               rintro e w3 ⟨rfl, γ', hB, hfr⟩
               have hfr2 := Fr.locals (by repeat (with_reducible first | exact Below.refl _ _ | refine Below.drew ?_ | refine below_drewN ?_ _ | refine Below.alloc ?_ (by simp) _)) hfr
               have k1 := hfr.block_ ((Blk.new w 75 _).alloc _) (Lab1.new (Nat.le_refl _))
               have k2 := hfr.block_ (heap_alloc_sndB w _ _ 75) (Lab1.new (Nat.le_succ _))
               have L1 := Lib.hid (Lab1.eq hfr (Nat.le_refl _) ((Blk.new w 75 _).alloc _).lt)
               have L2 := Lib.hid (Lab1.eq hfr (Nat.le_succ _) (heap_alloc_sndB w _ _ 75).lt)
               have u1 := k1.lt
               have u2 := k2.lt
               have f1 := k1.frozen
               have f2 := k2.frozen
               obtain ⟨a0, a1, a2, a3, a4, a5, a6, a7, a8, a9, a10⟩ := blk_cells11 k1
               obtain ⟨z0, z1, z2, z3, z4, z5, z6, z7, z8, z9, z10⟩ := blk_cells11 k2
               have HB := Lib.hid (And.intro hB hfr2)
               clear hB hfr hfr2 k1 k2))
          all_goals go_wp2_with fail
          all_goals refine bodyPost_ret (v := .tuple #[.agg #[.int .i64 op, .int .i64 n, .int .i64 phase, .int .i64 pc, .int .i64 (i + 1), .int .i64 j, .int .u64 from_, .int .u64 min, .int .u64 val, .int .u64 own, .slice da dn dc], .bool false]) ?_ rfl ?_
          all_goals first
            | (simp only [results, Tryz.results138]; go_simp; done)
            | (refine ⟨rfl, γ', ?_, ?_⟩
               · repeat (with_reducible first | exact HB.out.1 | refine RefAt.drewN ?_ _ | refine RefAt.far L1.out _ _ ?_ | refine RefAt.far L2.out _ _ ?_)
               · repeat (with_reducible first | exact HB.out.2 | refine Fr.drewN ?_ _ | refine Fr.local_ (Nat.le_refl _) _ _ ?_ | refine Fr.local_ (Nat.le_succ _) _ _ ?_))

      · rw [if_neg hnx]
        dsimp only
        rcases hlay with ⟨h5, HM⟩ | ⟨h5, HM⟩
        all_goals (have HM := Lib.hid HM)
        · go_enter Tryz.func138, Tryz.ntmps138
          go_wp2_with ((go_at_call 77; refine (HH.out _ (by repeat (with_reducible first | exact Below.refl _ _ | refine Below.drew ?_ | refine below_drewN ?_ _ | refine Below.alloc ?_ (by simp) _))).mono ?_; rintro e w1 ⟨rfl, rfl⟩))
          go_quiet (first | (go_at_call 79; exact quiet_left (HPL.out _)))
          go_wp2_with fail
          go_region_with (first
            | (go_at_call 140; refine (HCE.out _ (by repeat (with_reducible first | exact Below.refl _ _ | refine Below.drew ?_ | refine below_drewN ?_ _ | refine Below.alloc ?_ (by simp) _))).mono ?_; rintro e w' ⟨rfl, n9, rfl⟩)
            | (go_at_call 141; refine (HRO.out _).mono ?_; rintro e w' ⟨rfl, rfl⟩)
            | (go_at_call 66
               refine (HM.out _ (by repeat (with_reducible first | exact Below.refl _ _ | refine Below.drew ?_ | refine below_drewN ?_ _ | refine Below.alloc ?_ (by simp) _))).mono ?_
               rintro e w3 ⟨rfl, γ', hB, hfr⟩
               have hfr2 := Fr.locals (by repeat (with_reducible first | exact Below.refl _ _ | refine Below.drew ?_ | refine below_drewN ?_ _ | refine Below.alloc ?_ (by simp) _)) hfr
               have k1 := hfr.block_ ((Blk.new w 75 _).alloc _) (Lab1.new (Nat.le_refl _))
               have k2 := hfr.block_ (heap_alloc_sndB w _ _ 75) (Lab1.new (Nat.le_succ _))
               have L1 := Lib.hid (Lab1.eq hfr (Nat.le_refl _) ((Blk.new w 75 _).alloc _).lt)
               have L2 := Lib.hid (Lab1.eq hfr (Nat.le_succ _) (heap_alloc_sndB w _ _ 75).lt)
               have u1 := k1.lt
               have u2 := k2.lt
               have f1 := k1.frozen
               have f2 := k2.frozen
               obtain ⟨a0, a1, a2, a3, a4, a5, a6, a7, a8, a9, a10⟩ := blk_cells11 k1
               obtain ⟨z0, z1, z2, z3, z4, z5, z6, z7, z8, z9, z10⟩ := blk_cells11 k2
               have HB := Lib.hid (And.intro hB hfr2)
               clear hB hfr hfr2 k1 k2))
          all_goals go_wp2_with fail
          all_goals refine bodyPost_ret (v := .tuple #[.agg #[.int .i64 op, .int .i64 n, .int .i64 phase, .int .i64 pc, .int .i64 0, .int .i64 j, .int .u64 from_, .int .u64 min, .int .u64 val, .int .u64 own, .slice da dn dc], .bool true]) ?_ rfl ?_
          all_goals first
            | (simp only [results, Tryz.results138]; go_simp; done)
            | (refine ⟨rfl, γ', ?_, ?_⟩
               · repeat (with_reducible first | exact HB.out.1 | refine RefAt.drewN ?_ _ | refine RefAt.far L1.out _ _ ?_ | refine RefAt.far L2.out _ _ ?_)
               · repeat (with_reducible first | exact HB.out.2 | refine Fr.drewN ?_ _ | refine Fr.local_ (Nat.le_refl _) _ _ ?_ | refine Fr.local_ (Nat.le_succ _) _ _ ?_))

        · have h5b : (c0.variant == 5) = false := by simp [h5]
          go_enter Tryz.func138, Tryz.ntmps138
          go_wp2_with ((go_at_call 77; refine (HH.out _ (by repeat (with_reducible first | exact Below.refl _ _ | refine Below.drew ?_ | refine below_drewN ?_ _ | refine Below.alloc ?_ (by simp) _))).mono ?_; rintro e w1 ⟨rfl, rfl⟩))
          go_quiet (first | (go_at_call 79; exact quiet_left (HPL.out _)))
          go_wp2_with fail
          go_region_with (first
            | (go_at_call 140; refine (HCE.out _ (by repeat (with_reducible first | exact Below.refl _ _ | refine Below.drew ?_ | refine below_drewN ?_ _ | refine Below.alloc ?_ (by simp) _))).mono ?_; rintro e w' ⟨rfl, n9, rfl⟩)
            | (go_at_call 141; refine (HRO.out _).mono ?_; rintro e w' ⟨rfl, rfl⟩)
            | (go_at_call 61
               refine (HM.out _ (by repeat (with_reducible first | exact Below.refl _ _ | refine Below.drew ?_ | refine below_drewN ?_ _ | refine Below.alloc ?_ (by simp) _))).mono ?_
               rintro e w3 ⟨rfl, γ', hB, hfr⟩
               have hfr2 := Fr.locals (by repeat (with_reducible first | exact Below.refl _ _ | refine Below.drew ?_ | refine below_drewN ?_ _ | refine Below.alloc ?_ (by simp) _)) hfr
               have k1 := hfr.block_ ((Blk.new w 75 _).alloc _) (Lab1.new (Nat.le_refl _))
               have k2 := hfr.block_ (heap_alloc_sndB w _ _ 75) (Lab1.new (Nat.le_succ _))
               have L1 := Lib.hid (Lab1.eq hfr (Nat.le_refl _) ((Blk.new w 75 _).alloc _).lt)
               have L2 := Lib.hid (Lab1.eq hfr (Nat.le_succ _) (heap_alloc_sndB w _ _ 75).lt)
               have u1 := k1.lt
               have u2 := k2.lt
               have f1 := k1.frozen
               have f2 := k2.frozen
               obtain ⟨a0, a1, a2, a3, a4, a5, a6, a7, a8, a9, a10⟩ := blk_cells11 k1
               obtain ⟨z0, z1, z2, z3, z4, z5, z6, z7, z8, z9, z10⟩ := blk_cells11 k2
               have HB := Lib.hid (And.intro hB hfr2)
               clear hB hfr hfr2 k1 k2))
          all_goals go_wp2_with fail
          all_goals refine bodyPost_ret (v := .tuple #[.agg #[.int .i64 op, .int .i64 n, .int .i64 phase, .int .i64 pc, .int .i64 0, .int .i64 j, .int .u64 from_, .int .u64 min, .int .u64 val, .int .u64 own, .slice da dn dc], .bool true]) ?_ rfl ?_
          all_goals first
            | (simp only [results, Tryz.results138]; go_simp; done)
            | (refine ⟨rfl, γ', ?_, ?_⟩
               · repeat (with_reducible first | exact HB.out.1 | refine RefAt.drewN ?_ _ | refine RefAt.far L1.out _ _ ?_ | refine RefAt.far L2.out _ _ ?_)
               · repeat (with_reducible first | exact HB.out.2 | refine Fr.drewN ?_ _ | refine Fr.local_ (Nat.le_refl _) _ _ ?_ | refine Fr.local_ (Nat.le_succ _) _ _ ?_))

    · rw [if_neg hin]
      obtain ⟨op, n, phase, pc, i, j, from_, min, val, own, da, dn, dc⟩ := f
      unfold FrS.inside at hin
      unfold FrS.vs
      dsimp only at *
      clear hm h hf
      by_cases hi0 : 0 ≤ i
      · have hi1 : ¬ i < n := fun hl => hin ⟨hi0, hl⟩
        clear hin
        go_enter Tryz.func138, Tryz.ntmps138
        go_wp2_with ((go_at_call 77; refine (HH.out _ (by repeat (with_reducible first | exact Below.refl _ _ | refine Below.drew ?_ | refine below_drewN ?_ _ | refine Below.alloc ?_ (by simp) _))).mono ?_; rintro e w1 ⟨rfl, rfl⟩))
        refine bodyPost_ret (v := .tuple #[.agg #[.int .i64 op, .int .i64 n, .int .i64 phase, .int .i64 pc, .int .i64 0, .int .i64 j, .int .u64 from_, .int .u64 min, .int .u64 val, .int .u64 own, .slice da dn dc], .bool true]) ?_ rfl ?_
        · simp only [results, Tryz.results138]
          go_simp
        · refine ⟨rfl, γ, H.out.below ?_, Fr.of_below ?_ _ _⟩
          all_goals (repeat (with_reducible first | exact Below.refl _ _ | refine Below.drew ?_ | refine below_drewN ?_ _ | refine Below.setCell ?_ ?_ _ | refine Below.alloc ?_ ?_ _))
          all_goals (simp; try omega)

      · clear hin
        have hd : decide (0 ≤ i) = false := decide_eq_false hi0
        go_enter Tryz.func138, Tryz.ntmps138
        go_wp2_with ((go_at_call 77; refine (HH.out _ (by repeat (with_reducible first | exact Below.refl _ _ | refine Below.drew ?_ | refine below_drewN ?_ _ | refine Below.alloc ?_ (by simp) _))).mono ?_; rintro e w1 ⟨rfl, rfl⟩))
        refine bodyPost_ret (v := .tuple #[.agg #[.int .i64 op, .int .i64 n, .int .i64 phase, .int .i64 pc, .int .i64 0, .int .i64 j, .int .u64 from_, .int .u64 min, .int .u64 val, .int .u64 own, .slice da dn dc], .bool true]) ?_ rfl ?_
        · simp only [results, Tryz.results138]
          go_simp
        · refine ⟨rfl, γ, H.out.below ?_, Fr.of_below ?_ _ _⟩
          all_goals (repeat (with_reducible first | exact Below.refl _ _ | refine Below.drew ?_ | refine below_drewN ?_ _ | refine Below.setCell ?_ ?_ _ | refine Below.alloc ?_ ?_ _))
          all_goals (simp; try omega)

theorem r17Seek (h : RefAt w γ id q c0 b) {M : Int} (hf : b.Fit M) (hlen : b.log.length ≤ 1000000) (hwd : c0.width = 32 ∨ c0.width = 64) (hM : M = MW c0.width) (t : Int) (f : FrS) (hval : InM M f.val) :
    Calls Tryz.prog 83 #[.pointer (some ⟨q, 0, none⟩), .int .i64 t, .agg (f.vs .u64).toArray] w
      (RMutEnd w γ id q c0 (.tuple #[.agg ((seekP M b t f).2.2.vs .u64).toArray, .bool (seekP M b t f).1]) (seekP M b t f).2.1) := by
  have HH := Lib.hid (fun W (hW : Below w.heap.size w W) => r17Has W γ id q c0 b (h.below hW))
  have H := Lib.hid h
  unfold seekP
  by_cases hm : b.hasM = false
  · rw [if_pos hm]
    rw [hm] at HH
    obtain ⟨op, n, phase, pc, i, j, from_, min, val, own, da, dn, dc⟩ := f
    unfold FrS.vs
    dsimp only
    clear hm h hf
    go_enter Tryz.func83, Tryz.ntmps83
    go_wp2_with ((go_at_call 77; refine (HH.out _ (by repeat (with_reducible first | exact Below.refl _ _ | refine Below.drew ?_ | refine below_drewN ?_ _ | refine Below.alloc ?_ (by simp) _))).mono ?_; rintro e w1 ⟨rfl, rfl⟩))
    refine bodyPost_ret (v := .tuple #[.agg #[.int .i64 op, .int .i64 n, .int .i64 phase, .int .i64 pc, .int .i64 i, .int .i64 j, .int .u64 from_, .int .u64 min, .int .u64 val, .int .u64 own, .slice da dn dc], .bool true]) ?_ rfl ?_
    · simp only [results, Tryz.results83]
      go_simp
    · refine ⟨rfl, γ, H.out.below ?_, Fr.of_below ?_ _ _⟩
      all_goals (repeat (with_reducible first | exact Below.refl _ _ | refine Below.drew ?_ | refine below_drewN ?_ _ | refine Below.setCell ?_ ?_ _ | refine Below.alloc ?_ ?_ _))
      all_goals (simp; try omega)

  · rw [if_neg hm]
    have hm1 : b.hasM = true := by simpa using hm
    rw [hm1] at HH
    have hq0 : ∃ pr, w.cell? ⟨q, 1, none⟩ = some (.int .i64 c0.width) ∧ w.cell? ⟨q, 0, none⟩ = some (.int .i64 c0.variant) ∧ w.cell? ⟨q, 2, none⟩ = some (.int .i64 c0.cap) ∧ q < w.heap.size ∧ pr = 0 := by
      obtain ⟨rc, cv, hv, lv, hF, hR⟩ := h
      exact ⟨0, hF.brd.cell 1, hF.brd.cell 0, hF.brd.cell 2, hF.brd.lt, rfl⟩
    obtain ⟨_, hq1, hqv, hq2, hql, _⟩ := hq0
    have hu := inM_u hf.M2 hval
    have hcap : Cap2 c0.cap := by obtain ⟨_, _, _, _, _, hR⟩ := h; rw [hR.cap]; exact hf.cap
    have HPL := Lib.hid (fun W => rplus c0.width f.val 1 hwd hu W)
    rw [← hM] at HPL
    have HCE := Lib.hid (fun W (hW : Below w.heap.size w W) => r17Cell W γ id q c0 b (h.below hW) hf _ hu)
    have HRO := Lib.hid (fun W => rroundI c0.cap _ hcap hu W)
    obtain ⟨v, hv, hlook⟩ := r17look w γ id q c0 b h hf hlen hm1 t f.val
    obtain ⟨op, n, phase, pc, i, j, from_, min, val, own, da, dn, dc⟩ := f
    unfold FrS.vs
    dsimp only at *
    generalize (b.mlook t val).2 = b2 at *
    rw [hv]
    generalize hrd : roundI c0.cap val = rd at *
    generalize hnv : addM M val 1 = nv at *
    have hqk : ∀ w3 γ' , RefAt w3 γ' id q c0 b2 → w3.cell? ⟨q, 1, none⟩ = some (.int .i64 c0.width) ∧ w3.cell? ⟨q, 0, none⟩ = some (.int .i64 c0.variant) ∧ w3.cell? ⟨q, 2, none⟩ = some (.int .i64 c0.cap) ∧ q < w3.heap.size := by
      rintro w3 γ' ⟨rc, cv, hv, lv, hF, hR⟩
      exact ⟨hF.brd.cell 1, hF.brd.cell 0, hF.brd.cell 2, hF.brd.lt⟩
    have HQK := Lib.hid hqk
    clear hm h hf hlen hu hcap hM hval hqk
    by_cases hnx : v = rd
    · rw [if_pos (decide_eq_true hnx)]
      dsimp only
      have hne : (v != rd) = false := by simp [hnx]
      clear hv hnx
      rcases hlook with ⟨h5, HM⟩ | ⟨h5, HM⟩
      all_goals (have HM := Lib.hid HM)
      · go_enter Tryz.func83, Tryz.ntmps83
        go_wp2_with (first
          | (go_at_call 77; refine (HH.out _ (by repeat (with_reducible first | exact Below.refl _ _ | refine Below.drew ?_ | refine below_drewN ?_ _ | refine Below.alloc ?_ (by simp) _))).mono ?_; rintro e w1 ⟨rfl, rfl⟩)
          | (go_at_call 140; refine (HCE.out _ (by repeat (with_reducible first | exact Below.refl _ _ | refine Below.drew ?_ | refine below_drewN ?_ _ | refine Below.alloc ?_ (by simp) _))).mono ?_; rintro e w' ⟨rfl, n9, rfl⟩)
          | (go_at_call 65
             refine (HM.out _ (by repeat (with_reducible first | exact Below.refl _ _ | refine Below.drew ?_ | refine below_drewN ?_ _ | refine Below.alloc ?_ (by simp) _))).mono ?_
             rintro e w3 ⟨rfl, γ', hB, hfr⟩
             have hfr2 := Fr.locals (by repeat (with_reducible first | exact Below.refl _ _ | refine Below.drew ?_ | refine below_drewN ?_ _ | refine Below.alloc ?_ (by simp) _)) hfr
             have k1 := hfr.block_ ((Blk.new w 75 _).alloc _) (Lab1.new (Nat.le_refl _))
             have k2 := hfr.block_ (heap_alloc_sndB w _ _ 75) (Lab1.new (Nat.le_succ _))
             have L1 := Lib.hid (Lab1.eq hfr (Nat.le_refl _) ((Blk.new w 75 _).alloc _).lt)
             have L2 := Lib.hid (Lab1.eq hfr (Nat.le_succ _) (heap_alloc_sndB w _ _ 75).lt)
             have u1 := k1.lt
             have u2 := k2.lt
             have f1 := k1.frozen
             have f2 := k2.frozen
             obtain ⟨a0, a1, a2, a3, a4, a5, a6, a7, a8, a9, a10⟩ := blk_cells11 k1
             obtain ⟨z0, z1, z2, z3, z4, z5, z6, z7, z8, z9, z10⟩ := blk_cells11 k2
             have HB := Lib.hid (And.intro hB hfr2)
             clear hB hfr hfr2 k1 k2; have hqq := HQK.out _ _ HB.out.1; obtain ⟨e1, e2, e3, e4⟩ := hqq))
        go_quiet (first | (go_at_call 141; exact quiet_left (HRO.out _)) | (go_at_call 141; exact quiet_add_left (HRO.out _)))
        go_wp2_with fail
        go_region_with ((go_at_call 79; refine (HPL.out _).mono ?_; rintro e w' ⟨rfl, rfl⟩))
        all_goals go_wp2_with fail
        all_goals refine bodyPost_ret (v := .tuple #[.agg #[.int .i64 op, .int .i64 n, .int .i64 phase, .int .i64 pc, .int .i64 i, .int .i64 j, .int .u64 from_, .int .u64 min, .int .u64 nv, .int .u64 own, .slice da dn dc], .bool false]) ?_ rfl ?_
        all_goals first
          | (simp only [results, Tryz.results83]; go_simp; done)
          | (refine ⟨rfl, γ', ?_, ?_⟩
             · repeat (with_reducible first | exact HB.out.1 | refine RefAt.drewN ?_ _ | refine RefAt.far L1.out _ _ ?_ | refine RefAt.far L2.out _ _ ?_)
             · repeat (with_reducible first | exact HB.out.2 | refine Fr.drewN ?_ _ | refine Fr.local_ (Nat.le_refl _) _ _ ?_ | refine Fr.local_ (Nat.le_succ _) _ _ ?_))

      · have h5b : (c0.variant == 5) = false := by simp [h5]
        go_enter Tryz.func83, Tryz.ntmps83
        go_wp2_with (first
          | (go_at_call 77; refine (HH.out _ (by repeat (with_reducible first | exact Below.refl _ _ | refine Below.drew ?_ | refine below_drewN ?_ _ | refine Below.alloc ?_ (by simp) _))).mono ?_; rintro e w1 ⟨rfl, rfl⟩)
          | (go_at_call 140; refine (HCE.out _ (by repeat (with_reducible first | exact Below.refl _ _ | refine Below.drew ?_ | refine below_drewN ?_ _ | refine Below.alloc ?_ (by simp) _))).mono ?_; rintro e w' ⟨rfl, n9, rfl⟩)
          | (go_at_call 60
             refine (HM.out _ (by repeat (with_reducible first | exact Below.refl _ _ | refine Below.drew ?_ | refine below_drewN ?_ _ | refine Below.alloc ?_ (by simp) _))).mono ?_
             rintro e w3 ⟨rfl, γ', hB, hfr⟩
             have hfr2 := Fr.locals (by repeat (with_reducible first | exact Below.refl _ _ | refine Below.drew ?_ | refine below_drewN ?_ _ | refine Below.alloc ?_ (by simp) _)) hfr
             have k1 := hfr.block_ ((Blk.new w 75 _).alloc _) (Lab1.new (Nat.le_refl _))
             have k2 := hfr.block_ (heap_alloc_sndB w _ _ 75) (Lab1.new (Nat.le_succ _))
             have L1 := Lib.hid (Lab1.eq hfr (Nat.le_refl _) ((Blk.new w 75 _).alloc _).lt)
             have L2 := Lib.hid (Lab1.eq hfr (Nat.le_succ _) (heap_alloc_sndB w _ _ 75).lt)
             have u1 := k1.lt
             have u2 := k2.lt
             have f1 := k1.frozen
             have f2 := k2.frozen
             obtain ⟨a0, a1, a2, a3, a4, a5, a6, a7, a8, a9, a10⟩ := blk_cells11 k1
             obtain ⟨z0, z1, z2, z3, z4, z5, z6, z7, z8, z9, z10⟩ := blk_cells11 k2
             have HB := Lib.hid (And.intro hB hfr2)
             clear hB hfr hfr2 k1 k2; have hqq := HQK.out _ _ HB.out.1; obtain ⟨e1, e2, e3, e4⟩ := hqq))
        go_quiet (first | (go_at_call 141; exact quiet_left (HRO.out _)) | (go_at_call 141; exact quiet_add_left (HRO.out _)))
        go_wp2_with fail
        go_region_with ((go_at_call 79; refine (HPL.out _).mono ?_; rintro e w' ⟨rfl, rfl⟩))
        all_goals go_wp2_with fail
        all_goals refine bodyPost_ret (v := .tuple #[.agg #[.int .i64 op, .int .i64 n, .int .i64 phase, .int .i64 pc, .int .i64 i, .int .i64 j, .int .u64 from_, .int .u64 min, .int .u64 nv, .int .u64 own, .slice da dn dc], .bool false]) ?_ rfl ?_
        all_goals first
          | (simp only [results, Tryz.results83]; go_simp; done)
          | (refine ⟨rfl, γ', ?_, ?_⟩
             · repeat (with_reducible first | exact HB.out.1 | refine RefAt.drewN ?_ _ | refine RefAt.far L1.out _ _ ?_ | refine RefAt.far L2.out _ _ ?_)
             · repeat (with_reducible first | exact HB.out.2 | refine Fr.drewN ?_ _ | refine Fr.local_ (Nat.le_refl _) _ _ ?_ | refine Fr.local_ (Nat.le_succ _) _ _ ?_))

    · rw [if_neg (by simp [hnx])]
      dsimp only
      have hne : (v != rd) = true := by simp [hnx]
      clear hv hnx
      rcases hlook with ⟨h5, HM⟩ | ⟨h5, HM⟩
      all_goals (have HM := Lib.hid HM)
      · go_enter Tryz.func83, Tryz.ntmps83
        go_wp2_with (first
          | (go_at_call 77; refine (HH.out _ (by repeat (with_reducible first | exact Below.refl _ _ | refine Below.drew ?_ | refine below_drewN ?_ _ | refine Below.alloc ?_ (by simp) _))).mono ?_; rintro e w1 ⟨rfl, rfl⟩)
          | (go_at_call 140; refine (HCE.out _ (by repeat (with_reducible first | exact Below.refl _ _ | refine Below.drew ?_ | refine below_drewN ?_ _ | refine Below.alloc ?_ (by simp) _))).mono ?_; rintro e w' ⟨rfl, n9, rfl⟩)
          | (go_at_call 65
             refine (HM.out _ (by repeat (with_reducible first | exact Below.refl _ _ | refine Below.drew ?_ | refine below_drewN ?_ _ | refine Below.alloc ?_ (by simp) _))).mono ?_
             rintro e w3 ⟨rfl, γ', hB, hfr⟩
             have hfr2 := Fr.locals (by repeat (with_reducible first | exact Below.refl _ _ | refine Below.drew ?_ | refine below_drewN ?_ _ | refine Below.alloc ?_ (by simp) _)) hfr
             have k1 := hfr.block_ ((Blk.new w 75 _).alloc _) (Lab1.new (Nat.le_refl _))
             have k2 := hfr.block_ (heap_alloc_sndB w _ _ 75) (Lab1.new (Nat.le_succ _))
             have L1 := Lib.hid (Lab1.eq hfr (Nat.le_refl _) ((Blk.new w 75 _).alloc _).lt)
             have L2 := Lib.hid (Lab1.eq hfr (Nat.le_succ _) (heap_alloc_sndB w _ _ 75).lt)
             have u1 := k1.lt
             have u2 := k2.lt
             have f1 := k1.frozen
             have f2 := k2.frozen
             obtain ⟨a0, a1, a2, a3, a4, a5, a6, a7, a8, a9, a10⟩ := blk_cells11 k1
             obtain ⟨z0, z1, z2, z3, z4, z5, z6, z7, z8, z9, z10⟩ := blk_cells11 k2
             have HB := Lib.hid (And.intro hB hfr2)
             clear hB hfr hfr2 k1 k2; have hqq := HQK.out _ _ HB.out.1; obtain ⟨e1, e2, e3, e4⟩ := hqq))
        go_quiet (first | (go_at_call 141; exact quiet_left (HRO.out _)) | (go_at_call 141; exact quiet_add_left (HRO.out _)))
        go_wp2_with fail
        all_goals refine bodyPost_ret (v := .tuple #[.agg #[.int .i64 op, .int .i64 n, .int .i64 phase, .int .i64 pc, .int .i64 i, .int .i64 j, .int .u64 from_, .int .u64 min, .int .u64 val, .int .u64 own, .slice da dn dc], .bool true]) ?_ rfl ?_
        all_goals first
          | (simp only [results, Tryz.results83]; go_simp; done)
          | (refine ⟨rfl, γ', ?_, ?_⟩
             · repeat (with_reducible first | exact HB.out.1 | refine RefAt.drewN ?_ _ | refine RefAt.far L1.out _ _ ?_ | refine RefAt.far L2.out _ _ ?_)
             · repeat (with_reducible first | exact HB.out.2 | refine Fr.drewN ?_ _ | refine Fr.local_ (Nat.le_refl _) _ _ ?_ | refine Fr.local_ (Nat.le_succ _) _ _ ?_))

      · have h5b : (c0.variant == 5) = false := by simp [h5]
        go_enter Tryz.func83, Tryz.ntmps83
        go_wp2_with (first
          | (go_at_call 77; refine (HH.out _ (by repeat (with_reducible first | exact Below.refl _ _ | refine Below.drew ?_ | refine below_drewN ?_ _ | refine Below.alloc ?_ (by simp) _))).mono ?_; rintro e w1 ⟨rfl, rfl⟩)
          | (go_at_call 140; refine (HCE.out _ (by repeat (with_reducible first | exact Below.refl _ _ | refine Below.drew ?_ | refine below_drewN ?_ _ | refine Below.alloc ?_ (by simp) _))).mono ?_; rintro e w' ⟨rfl, n9, rfl⟩)
          | (go_at_call 60
             refine (HM.out _ (by repeat (with_reducible first | exact Below.refl _ _ | refine Below.drew ?_ | refine below_drewN ?_ _ | refine Below.alloc ?_ (by simp) _))).mono ?_
             rintro e w3 ⟨rfl, γ', hB, hfr⟩
             have hfr2 := Fr.locals (by repeat (with_reducible first | exact Below.refl _ _ | refine Below.drew ?_ | refine below_drewN ?_ _ | refine Below.alloc ?_ (by simp) _)) hfr
             have k1 := hfr.block_ ((Blk.new w 75 _).alloc _) (Lab1.new (Nat.le_refl _))
             have k2 := hfr.block_ (heap_alloc_sndB w _ _ 75) (Lab1.new (Nat.le_succ _))
             have L1 := Lib.hid (Lab1.eq hfr (Nat.le_refl _) ((Blk.new w 75 _).alloc _).lt)
             have L2 := Lib.hid (Lab1.eq hfr (Nat.le_succ _) (heap_alloc_sndB w _ _ 75).lt)
             have u1 := k1.lt
             have u2 := k2.lt
             have f1 := k1.frozen
             have f2 := k2.frozen
             obtain ⟨a0, a1, a2, a3, a4, a5, a6, a7, a8, a9, a10⟩ := blk_cells11 k1
             obtain ⟨z0, z1, z2, z3, z4, z5, z6, z7, z8, z9, z10⟩ := blk_cells11 k2
             have HB := Lib.hid (And.intro hB hfr2)
             clear hB hfr hfr2 k1 k2; have hqq := HQK.out _ _ HB.out.1; obtain ⟨e1, e2, e3, e4⟩ := hqq))
        go_quiet (first | (go_at_call 141; exact quiet_left (HRO.out _)) | (go_at_call 141; exact quiet_add_left (HRO.out _)))
        go_wp2_with fail
        all_goals refine bodyPost_ret (v := .tuple #[.agg #[.int .i64 op, .int .i64 n, .int .i64 phase, .int .i64 pc, .int .i64 i, .int .i64 j, .int .u64 from_, .int .u64 min, .int .u64 val, .int .u64 own, .slice da dn dc], .bool true]) ?_ rfl ?_
        all_goals first
          | (simp only [results, Tryz.results83]; go_simp; done)
          | (refine ⟨rfl, γ', ?_, ?_⟩
             · repeat (with_reducible first | exact HB.out.1 | refine RefAt.drewN ?_ _ | refine RefAt.far L1.out _ _ ?_ | refine RefAt.far L2.out _ _ ?_)
             · repeat (with_reducible first | exact HB.out.2 | refine Fr.drewN ?_ _ | refine Fr.local_ (Nat.le_refl _) _ _ ?_ | refine Fr.local_ (Nat.le_succ _) _ _ ?_))

theorem prefixP_go (M : Int) (b : BS) (from_ most : Int) : prefixP M b from_ most = (prefixGo M b from_ (min most b.l.c.cap).toNat 0 : Nat) := by
  unfold prefixP
  cases hm : b.hasM
  · rw [if_neg (by decide)]
    have hk : ∀ p, b.marked p = false := fun p => by unfold BS.marked; rw [hm]; rfl
    cases (min most b.l.c.cap).toNat with
    | zero => rfl
    | succ n => unfold prefixGo; rw [hk]; rfl
  · rw [if_pos rfl]
theorem r17Prefix (h : RefAt w γ id q c0 b) {M : Int} (hf : b.Fit M) (hwd : c0.width = 32 ∨ c0.width = 64) (hM : M = MW c0.width) (from_ most : Int) (hfrom : InM M from_) :
    Calls Tryz.prog 85 #[.pointer (some ⟨q, 0, none⟩), .int .u64 from_, .int .i64 most] w fun e w' => e = .returned (.int .i64 (prefixP M b from_ most)) ∧ ∃ n, w' = w.drewN n := by
  rw [prefixP_go]
  have hq0 : ∃ pr, w.cell? ⟨q, 1, none⟩ = some (.int .i64 c0.width) ∧ w.cell? ⟨q, 2, none⟩ = some (.int .i64 c0.cap) ∧ q < w.heap.size ∧ pr = 0 := by
    obtain ⟨rc, cv, hv, lv, hF, hR⟩ := h
    exact ⟨0, hF.brd.cell 1, hF.brd.cell 2, hF.brd.lt, rfl⟩
  obtain ⟨_, hq1, hq2, hql, _⟩ := hq0
  have hcap : c0.cap = b.l.c.cap := by obtain ⟨_, _, _, _, _, hR⟩ := h; exact hR.cap
  have hb := hf.cap.bd
  rw [← hcap] at hb ⊢
  have HMK := Lib.hid (fun W (hW : Below w.heap.size w W) (k : Int) => r17Marked W γ id q c0 b (h.below hW) hf (addM M from_ k) (inM_u hf.M2 (addM_in hf.M2 _ _)))
  have HPL := Lib.hid (fun k W => rplus c0.width from_ k hwd (inM_u hf.M2 hfrom) W)
  rw [← hM] at HPL
  clear h hf hM hwd hfrom hcap
  generalize c0.cap = cp at *
  generalize c0.width = wd at *
  have hN : (min most cp).toNat ≤ 64 := by omega
  go_enter Tryz.func85, Tryz.ntmps85
  go_wp2_with fail
  go_loopw [7] (fun i wr => ∃ k : Nat, i = .int .i64 k ∧ k ≤ (min most cp).toNat ∧ prefixGo M b from_ (min most cp).toNat 0 = prefixGo M b from_ ((min most cp).toNat - k) k ∧ ∃ n, wr = w.drewN n) (fun i _ => (min most cp).toNat - (intOf i).toNat)
  case atStart => exact ⟨0, rfl, by omega, rfl, 0, rfl⟩
  case round =>
    obtain ⟨k, rfl, hk, hgo, n, rfl⟩ := hrel
    have HGO := Lib.hid hgo
    clear hgo
    by_cases hm : (k : Int) < most
    · by_cases hc : (k : Int) < cp
      · have hlt : k < (min most cp).toNat := by omega
        have hgk : prefixGo M b from_ ((min most cp).toNat - k) k = if b.marked (addM M from_ k) then prefixGo M b from_ ((min most cp).toNat - (k + 1)) (k + 1) else k := by
          rw [show (min most cp).toNat - k = ((min most cp).toNat - (k + 1)) + 1 by omega]; rfl
        have HK := Lib.hid (And.intro hlt hgk)
        have hdm : decide ((k : Int) < most) = true := decide_eq_true hm
        have hdc : decide ((k : Int) < cp) = true := decide_eq_true hc
        clear hlt hgk hm hc hN
        cases hmk : b.marked (addM M from_ k)
        · have HMM := Lib.hid (fun W (hW : Below w.heap.size w W) => HMK.out W hW k)
          rw [hmk] at HMM
          go_wp2_with (first
            | (go_at_call 79; refine (HPL.out _ _).mono ?_; rintro e w' ⟨rfl, rfl⟩)
            | (go_at_call 84; refine (HMM.out _ (by repeat (with_reducible first | exact Below.refl _ _ | refine Below.drew ?_ | refine below_drewN ?_ _ | refine Below.alloc ?_ (by simp) _))).mono ?_; rintro e w' ⟨rfl, n9, rfl⟩))
          go_ret
          exact ⟨ret_int (by rw [HGO.out, HK.out.2, hmk]; simp), n + n9, rfl⟩
        · have HMM := Lib.hid (fun W (hW : Below w.heap.size w W) => HMK.out W hW k)
          rw [hmk] at HMM
          go_wp2_with (first
            | (go_at_call 79; refine (HPL.out _ _).mono ?_; rintro e w' ⟨rfl, rfl⟩)
            | (go_at_call 84; refine (HMM.out _ (by repeat (with_reducible first | exact Below.refl _ _ | refine Below.drew ?_ | refine below_drewN ?_ _ | refine Below.alloc ?_ (by simp) _))).mono ?_; rintro e w' ⟨rfl, n9, rfl⟩))
          go_round
          case rel => exact ⟨k + 1, by go_num, by have := HK.out.1; omega, by rw [HGO.out, HK.out.2, hmk]; simp, n + n9, rfl⟩
          case measure => have := HK.out.1; simp only [intOf]; omega
      · have hk0 : (min most cp).toNat - k = 0 := by omega
        have hdm : decide ((k : Int) < most) = true := decide_eq_true hm
        have hdc : decide ((k : Int) < cp) = false := decide_eq_false hc
        have HK := Lib.hid hk0
        clear hk0 hm hc hN
        go_wp2_with fail
        go_ret
        exact ⟨ret_int (by rw [HGO.out, HK.out]; rfl), _, rfl⟩
    · have hk0 : (min most cp).toNat - k = 0 := by omega
      have hdm : decide ((k : Int) < most) = false := decide_eq_false hm
      have HK := Lib.hid hk0
      clear hk0 hm hN
      go_wp2_with fail
      go_ret
      exact ⟨ret_int (by rw [HGO.out, HK.out]; rfl), _, rfl⟩
end
end Go.Proofs.YtmjpdojecdnkjaaGreat
