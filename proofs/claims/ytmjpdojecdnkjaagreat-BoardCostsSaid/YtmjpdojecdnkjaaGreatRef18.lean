/- Contracts of sakiaref18: turns, on the reference's board. -/
import Derived.Test.YtmjpdojecdnkjaaGreatRefB
import Derived.Test.YtmjpdojecdnkjaaGreatTurn
import Derived.Test.YtmjpdojecdnkjaaGreatFrame
import Derived.Test.YtmjpdojecdnkjaaGreatLayOf
namespace Go.Proofs.YtmjpdojecdnkjaaGreat
open Go.RowKit
set_option linter.unusedVariables false
set_option linter.unusedSimpArgs false
set_option maxHeartbeats 2000000

section
variable (w : World) (γ : Nat → Nat) (id q : Nat) (c0 : Cf) (b : BS)
theorem RMutEnd.from_ {w w1 w' : World} {γ : Nat → Nat} {id q : Nat} {c0 : Cf} {v : Value} {b' : BS} {e : Ending} (hb : Below w.heap.size w w1) (h : RMutEnd w1 γ id q c0 v b' e w') : RMutEnd w γ id q c0 v b' e w' := by
  obtain ⟨he, γ', hB, hf⟩ := h
  exact ⟨he, γ', hB, (Fr.of_below hb _ _).trans hf⟩
theorem r18Has (h : RefAt w γ id q c0 b) : Calls Tryz.prog 31 #[.pointer (some ⟨q, 0, none⟩)] w fun e w' => e = .returned (.bool (decide (b.l.c.variant = 5))) ∧ w = w' := by
  obtain ⟨rc, cv, hv, lv, hF, hR⟩ := h
  have h0 : w.cell? ⟨q, 0, none⟩ = some (.int .i64 c0.variant) := hF.brd.cell 0
  rw [← hR.variant]
  clear hF hR
  go_enter Tryz.func31, Tryz.ntmps31
  go_wp2_with fail
  go_ret
  exact ⟨ret_bool (by by_cases h9 : c0.variant = 5 <;> simp [h9]), rfl⟩
theorem r18ticket (h : RefAt w γ id q c0 b) : Calls Tryz.prog 97 #[.pointer (some ⟨q, 0, none⟩)] w fun e w' => e = .returned (.int .i64 c0.un) ∧ w = w' := by
  obtain ⟨rc, cv, hv, lv, hF, hR⟩ := h
  have h0 : w.cell? ⟨q, 5, none⟩ = some (.slice c0.ua c0.un c0.uc) := hF.brd.cell 5
  clear hF hR
  go_enter Tryz.func97, Tryz.ntmps97
  go_wp2_with fail
  go_ret
  exact ⟨rfl, rfl⟩
theorem fit_turn {M : Int} {b : BS} (hf : b.Fit M) (hv : b.l.c.variant = 5) : b.l.ticket = b.l.c.un ∧ b.l.serving = b.l.c.un + 1 := by
  have e := hf.lay
  rw [e]
  unfold mkLay
  rw [if_neg (by omega), if_pos hv]
  exact ⟨rfl, rfl⟩
theorem turn_kind {M : Int} {b : BS} (hf : b.Fit M) (hv : b.l.c.variant = 5) : b.l.kind b.l.ticket = 1 ∧ b.l.kind b.l.serving = 1 := by
  have hft := fit_turn hf hv
  have hcb := hf.cap.bd
  have hu := hf.un
  have e : b.l = ⟨b.l.c, -1, -1, b.l.c.un, b.l.c.un + 1, b.l.c.un + 2, b.l.c.un + 3, b.l.c.un + 3 + b.l.c.cap, b.l.c.un + 3 + b.l.c.cap + b.l.c.cap⟩ := by
    conv => lhs; rw [hf.lay]
    unfold mkLay
    rw [if_neg (by omega), if_pos hv]
  rw [hft.1, hft.2]
  generalize b.l.c = c at *
  rw [e]
  unfold Lay.kind
  dsimp only
  refine ⟨?_, ?_⟩
  · rw [if_neg (by omega), if_neg (by omega), if_neg (by omega)]
  · rw [if_neg (by omega), if_neg (by omega), if_neg (by omega)]
/-- labels under which what is new is nobody's -/
def Lab1 (w : World) (γ : Nat → Nat) (id : Nat) : Nat → Nat := fun b => if b < w.heap.size then γ b else id + 1
theorem Lab1.new {w : World} {γ : Nat → Nat} {id g : Nat} (h : w.heap.size ≤ g) : ¬ OneId id (Lab1 w γ id g) := by
  unfold Lab1 OneId
  rw [if_neg (by omega)]
  omega
theorem RefAt.locals {w W : World} {γ : Nat → Nat} {id q : Nat} {c0 : Cf} {b : BS} (h : RefAt w γ id q c0 b) (hW : Below w.heap.size w W) : RefAt W (Lab1 w γ id) id q c0 b :=
  h.fr ((Fr.of_below hW NoId γ).relabel _) (fun h => h)
theorem Lab1.eq {w W W' : World} {γ γ' : Nat → Nat} {id g : Nat} (hf : Fr (OneId id) (Lab1 w γ id) γ' W W') (hg : w.heap.size ≤ g) (hl : g < W.heap.size) : γ' g = id + 1 := by
  rw [hf.lab g hl]
  unfold Lab1
  rw [if_neg (by omega)]
theorem RefAt.far {w : World} {γ : Nat → Nat} {id q g : Nat} {c0 : Cf} {b : BS} (hl : γ g = id + 1) (k : Nat) (u : Value) (h : RefAt w γ id q c0 b) : RefAt (w.setCell ⟨g, k, none⟩ u) γ id q c0 b :=
  h.fr ((Fr.refl (OneId (id + 1)) γ w).setCell (p := ⟨g, k, none⟩) (.inr hl) u) (by unfold OneId; omega)
theorem Fr.local_ {S : Nat → Prop} {w w' : World} {γ γ' : Nat → Nat} {g : Nat} (hg : w.heap.size ≤ g) (k : Nat) (u : Value) (h : Fr S γ γ' w w') : Fr S γ γ' w (w'.setCell ⟨g, k, none⟩ u) := h.setCell (p := ⟨g, k, none⟩) (.inl hg) u
theorem Fr.locals {w W w' : World} {γ γ' : Nat → Nat} {id : Nat} (hW : Below w.heap.size w W) (h : Fr (OneId id) (Lab1 w γ id) γ' W w') : Fr (OneId id) γ γ' w w' :=
  (((Fr.of_below hW NoId γ).relabel (fun _ => id + 1)).mono (fun _ h => h.elim)).trans h
theorem r18Leave (h : RefAt w γ id q c0 b) {M : Int} (hf : b.Fit M) (hlen : b.log.length ≤ 1000000) (hwd : c0.width = 32 ∨ c0.width = 64) (hM : M = MW c0.width) (t : Int) :
    Calls Tryz.prog 32 #[.pointer (some ⟨q, 0, none⟩), .int .i64 t] w (RMutEnd w γ id q c0 (.tuple #[]) (leaveP M b t)) := by
  have HH := Lib.hid (r18Has w γ id q c0 b h)
  have H := Lib.hid h
  unfold leaveP
  by_cases hv : b.l.c.variant = 5
  · rw [if_pos hv]
    rw [show decide (b.l.c.variant = 5) = true from decide_eq_true hv] at HH
    have HT := Lib.hid (r18ticket w γ id q c0 b h)
    have hu : c0.un = b.l.c.un := by obtain ⟨_, _, _, _, _, hR⟩ := h; exact hR.un
    have hun := hf.un
    have hs : (c0.un : Int) + 1 = b.l.serving := by rw [(fit_turn hf hv).2, hu]
    have hw1 : wrap64 ((c0.un : Int) + 1) = (c0.un : Int) + 1 := wrap64_id (by omega)
    have HA := Lib.hid (rAdd w γ id q c0 b h hf.ok hlen hwd hM t b.l.serving 1)
    rw [← hs] at HA
    rw [← hs]
    clear h hf hlen hv hs hu hun
    go_enter Tryz.func32, Tryz.ntmps32
    go_wp2_with (first
      | (go_at_call 31; refine HH.out.mono ?_; rintro e w1 ⟨rfl, rfl⟩)
      | (go_at_call 97; refine HT.out.mono ?_; rintro e w1 ⟨rfl, rfl⟩)
      | (go_at_call 63; refine HA.out.mono ?_; rintro e w3 ⟨rfl, γ', hB, hfr⟩; have HB := Lib.hid (And.intro hB hfr); clear hB hfr))
    first | go_end0 | refine bodyPost_ret (results_none rfl _ _ _) rfl ?_
    exact ⟨rfl, γ', HB.out.1, HB.out.2⟩
  · rw [if_neg hv]
    rw [show decide (b.l.c.variant = 5) = false from decide_eq_false hv] at HH
    clear h hf hlen hv
    go_enter Tryz.func32, Tryz.ntmps32
    go_wp2_with (go_at_call 31; refine HH.out.mono ?_; rintro e w1 ⟨rfl, rfl⟩)
    first | go_end0 | refine bodyPost_ret (results_none rfl _ _ _) rfl ?_
    exact ⟨rfl, γ, H.out, Fr.refl _ _ _⟩
theorem r18Waiting (h : RefAt w γ id q c0 b) {M : Int} (hf : b.Fit M) (hwd : c0.width = 32 ∨ c0.width = 64) (hM : M = MW c0.width) :
    Calls Tryz.prog 34 #[.pointer (some ⟨q, 0, none⟩)] w fun e w' => e = .returned (.int .i64 (waitingP M b)) ∧ ∃ n, w' = w.drewN n := by
  subst hM
  have HH := Lib.hid (r18Has w γ id q c0 b h)
  unfold waitingP
  by_cases hv : b.l.c.variant = 5
  · rw [if_pos hv]
    rw [show decide (b.l.c.variant = 5) = true from decide_eq_true hv] at HH
    have HT := Lib.hid (r18ticket w γ id q c0 b h)
    obtain ⟨rc, cv, hv2, lv, hF, hR⟩ := h
    have hu : c0.un = b.l.c.un := hR.un
    have hun := hf.un
    have hft := fit_turn hf hv
    have hsl := mkLay_slots hf.cap
    have hla := hf.lay
    have hnc := hf.ok.nc
    have hs5 : b.l.slots = (b.l.c.un : Int) + 3 + b.l.c.cap := by rw [hla]; unfold mkLay; rw [if_neg (by omega), if_pos hv]
    have hcb := hf.cap.bd
    have hk1 : c0.un < b.cells.length := by omega
    have hk2 : c0.un + 1 < b.cells.length := by omega
    have hh1 : c0.un < (hasOf b).length := by unfold hasOf; rw [List.length_append]; omega
    have hh2 : c0.un + 1 < (hasOf b).length := by unfold hasOf; rw [List.length_append]; omega
    have h1 : w.cell? ⟨q, 1, none⟩ = some (.int .i64 c0.width) := hF.brd.cell 1
    have h7 : w.cell? ⟨q, 7, none⟩ = some hv2 := hF.brd.cell 7
    obtain ⟨g, cap, rfl, hgl, hg1, _⟩ := row_at hF.has.1 hh1
    obtain ⟨g', cap', he, _, hg2, _⟩ := row_at hF.has.1 hh2
    injection he with e1 _ _
    injection e1 with e1
    injection e1 with e1 _ _
    subst e1
    rw [show (hasOf b).getD c0.un 0 = b.at_ b.l.ticket by rw [hft.1, ← hu]; simp [hasOf, BS.at_, List.getD_eq_getElem?_getD, List.getElem?_append_left hk1]] at hg1
    rw [show (hasOf b).getD (c0.un + 1) 0 = b.at_ b.l.serving by rw [hft.2, ← hu]; unfold BS.at_ hasOf; rw [show ((c0.un : Int) + 1).toNat = c0.un + 1 by omega, List.getD_eq_getElem?_getD, List.getD_eq_getElem?_getD, List.getElem?_append_left hk2]] at hg2
    have hin1 : InM (MW c0.width) (b.at_ b.l.ticket) := by
      obtain ⟨_, _, _, hi⟩ := hf.ok.cell (k := b.l.ticket) (.inl (turn_kind hf hv).1)
      exact hi
    have hin2 : InM (MW c0.width) (b.at_ b.l.serving) := by
      obtain ⟨_, _, _, hi⟩ := hf.ok.cell (k := b.l.serving) (.inl (turn_kind hf hv).2)
      exact hi
    have HU1 := Lib.hid (inM_u (MW2 hwd) hin1)
    have HU2 := Lib.hid (inM_u (MW2 hwd) hin2)
    have HW := Lib.hid hwd
    have hi1 : (c0.un : Int) < (hasOf b).length := by omega
    have hi2 : (c0.un : Int) + 1 < (hasOf b).length := by omega
    have hw1 : wrap64 ((c0.un : Int) + 1) = (c0.un : Int) + 1 := wrap64_id (by omega)
    generalize b.at_ b.l.ticket = x1 at *
    generalize b.at_ b.l.serving = x2 at *
    clear hF hR hft hla hs5 hsl hk1 hk2 hh1 hh2 hin1 hin2 hv hwd hnc hcb hf hun hu
    go_enter Tryz.func34, Tryz.ntmps34
    go_wp2_with (first
      | (go_at_call 31; refine HH.out.mono ?_; rintro e w1 ⟨rfl, rfl⟩)
      | (go_at_call 97; refine HT.out.mono ?_; rintro e w1 ⟨rfl, rfl⟩))
    go_quiet ((go_at_call 98; exact quiet_left (rgap _ _ _ HW.out HU1.out HU2.out _)))
    go_wp2_with fail
    go_ret
    exact ⟨rfl, _, rfl⟩
  · rw [if_neg hv]
    rw [show decide (b.l.c.variant = 5) = false from decide_eq_false hv] at HH
    clear h hf hv
    go_enter Tryz.func34, Tryz.ntmps34
    go_wp2_with (go_at_call 31; refine HH.out.mono ?_; rintro e w1 ⟨rfl, rfl⟩)
    go_ret
    exact ⟨rfl, 0, rfl⟩
theorem r18Enter (h : RefAt w γ id q c0 b) {M : Int} (hf : b.Fit M) (hlen : b.log.length ≤ 1000000) (hwd : c0.width = 32 ∨ c0.width = 64) (hM : M = MW c0.width) (t : Int) (f : FrS) :
    Calls Tryz.prog 33 #[.pointer (some ⟨q, 0, none⟩), .int .i64 t, .agg (f.vs .u64).toArray] w
      (RMutEnd w γ id q c0 (.tuple #[.agg (FrS.vs .u64 { f with pc := (enterP M b t f.pc f.own).2.2.1, own := (enterP M b t f.pc f.own).2.2.2 }).toArray, .bool (enterP M b t f.pc f.own).1]) (enterP M b t f.pc f.own).2.1) := by
  have HH := Lib.hid (fun W (hW : Below w.heap.size w W) => r18Has W γ id q c0 b (h.below hW))
  have H := Lib.hid h
  obtain ⟨op, n, phase, pc, i, j, from_, min, val, own, da, dn, dc⟩ := f
  unfold FrS.vs
  dsimp only
  by_cases hv : b.l.c.variant = 5
  · rw [show decide (b.l.c.variant = 5) = true from decide_eq_true hv] at HH
    have HT := Lib.hid (fun W (hW : Below w.heap.size w W) => r18ticket W γ id q c0 b (h.below hW))
    have hu : c0.un = b.l.c.un := by obtain ⟨_, _, _, _, _, hR⟩ := h; exact hR.un
    have hft := fit_turn hf hv
    have hun := hf.un
    have hw1 : wrap64 ((c0.un : Int) + 1) = (c0.un : Int) + 1 := wrap64_id (by omega)
    have hw2 : IntKind.i64.wrap ((c0.un : Int) + 1) = (c0.un : Int) + 1 := by simp [IntKind.wrap, IntKind.bits, IntKind.signed]; omega
    have HA := Lib.hid (fun W (hW : Below w.heap.size w W) => rAdd W (Lab1 w γ id) id q c0 b (h.locals hW) hf.ok hlen hwd hM t b.l.ticket 1)
    have HO := Lib.hid (fun W (hW : Below w.heap.size w W) => rLoad W (Lab1 w γ id) id q c0 b (h.locals hW) hf.ok hlen t b.l.serving)
    have ht1 : (c0.un : Int) = b.l.ticket := by rw [hft.1, hu]
    have hs1 : (c0.un : Int) + 1 = b.l.serving := by rw [hft.2, hu]
    rw [← ht1] at HA
    rw [← hs1] at HO
    have HE := Lib.hid (And.intro hv (And.intro ht1 hs1))
    clear h hf hlen hv hft hun hu ht1 hs1 hwd hM
    by_cases hpc : pc = 0
    · subst hpc
      have hr : enterP M b t 0 own = (false, (b.add M t c0.un 1).2, 1, (b.add M t c0.un 1).1) := by unfold enterP; rw [if_neg (fun hn => hn HE.out.1), if_pos rfl, HE.out.2.1]
      rw [hr]
      clear hr
      go_enter Tryz.func33, Tryz.ntmps33
      go_wp2_with (first
        | (go_at_call 31; refine (HH.out _ (by repeat (with_reducible first | exact Below.refl _ _ | refine Below.drew ?_ | refine below_drewN ?_ _ | refine Below.alloc ?_ (by simp) _))).mono ?_; rintro e w1 ⟨rfl, rfl⟩)
        | (go_at_call 97; refine (HT.out _ (by repeat (with_reducible first | exact Below.refl _ _ | refine Below.drew ?_ | refine below_drewN ?_ _ | refine Below.alloc ?_ (by simp) _))).mono ?_; rintro e w1 ⟨rfl, rfl⟩)
        | (go_at_call 63
           refine (HA.out _ (by repeat (with_reducible first | exact Below.refl _ _ | refine Below.drew ?_ | refine below_drewN ?_ _ | refine Below.alloc ?_ (by simp) _))).mono ?_
           rintro e w3 ⟨rfl, γ', hB, hfr⟩
           have hfr2 := Fr.locals (by repeat (with_reducible first | exact Below.refl _ _ | refine Below.drew ?_ | refine below_drewN ?_ _ | refine Below.alloc ?_ (by simp) _)) hfr
           have k1 := hfr.block_ ((Blk.new w 75 _).alloc _) (Lab1.new (Nat.le_refl _))
           have k2 := hfr.block_ (heap_alloc_sndB w _ _ 75) (Lab1.new (Nat.le_succ _))
           have L1 := Lib.hid (Lab1.eq hfr (Nat.le_refl _) ((Blk.new w 75 _).alloc _).lt)
           have L2 := Lib.hid (Lab1.eq hfr (Nat.le_succ _) (heap_alloc_sndB w _ _ 75).lt)
           have u1 := k1.lt
           have u2 := k2.lt
           have f1 := k1.frozen
           have f2 := k2.frozen
           obtain ⟨a0, a1, a2, a3, a4, a5, a6, a7, a8, a9, a10⟩ := blk_cells11 k1
           obtain ⟨z0, z1, z2, z3, z4, z5, z6, z7, z8, z9, z10⟩ := blk_cells11 k2
           have HB := Lib.hid (And.intro hB hfr2)
           clear hB hfr hfr2 k1 k2))
      refine bodyPost_ret (v := .tuple #[.agg #[.int .i64 op, .int .i64 n, .int .i64 phase, .int .i64 1, .int .i64 i, .int .i64 j, .int .u64 from_, .int .u64 min, .int .u64 val, (.int .u64 (b.add M t c0.un 1).1), .slice da dn dc], .bool false]) ?_ rfl ?_
      · simp only [results, Tryz.results33]
        go_simp
      · refine ⟨rfl, γ', ?_, ?_⟩
        · repeat (with_reducible first | exact HB.out.1 | refine RefAt.far L1.out _ _ ?_ | refine RefAt.far L2.out _ _ ?_)
        · repeat (with_reducible first | exact HB.out.2 | refine Fr.local_ (Nat.le_refl _) _ _ ?_ | refine Fr.local_ (Nat.le_succ _) _ _ ?_)
    · by_cases hown : (b.load t ((c0.un : Int) + 1)).1 = own
      · have hr : enterP M b t pc own = (true, (b.load t ((c0.un : Int) + 1)).2, 2, own) := by unfold enterP; rw [if_neg (fun hn => hn HE.out.1), if_neg hpc, ← HE.out.2.2, if_pos hown]
        rw [hr]
        clear hr
        have howb : ((b.load t ((c0.un : Int) + 1)).1 == own) = true := by simp [hown]
        go_enter Tryz.func33, Tryz.ntmps33
        go_wp2_with (go_at_call 31; refine (HH.out _ (by repeat (with_reducible first | exact Below.refl _ _ | refine Below.drew ?_ | refine below_drewN ?_ _ | refine Below.alloc ?_ (by simp) _))).mono ?_; rintro e w1 ⟨rfl, rfl⟩)
        go_region_with (first
          | (go_at_call 97; refine (HT.out _ (by repeat (with_reducible first | exact Below.refl _ _ | refine Below.drew ?_ | refine below_drewN ?_ _ | refine Below.alloc ?_ (by simp) _))).mono ?_; rintro e w1 ⟨rfl, rfl⟩)
          | (go_at_call 60
             refine (HO.out _ (by repeat (with_reducible first | exact Below.refl _ _ | refine Below.drew ?_ | refine below_drewN ?_ _ | refine Below.alloc ?_ (by simp) _))).mono ?_
             rintro e w3 ⟨rfl, γ', hB, hfr⟩
             have hfr2 := Fr.locals (by repeat (with_reducible first | exact Below.refl _ _ | refine Below.drew ?_ | refine below_drewN ?_ _ | refine Below.alloc ?_ (by simp) _)) hfr
             have k1 := hfr.block_ ((Blk.new w 75 _).alloc _) (Lab1.new (Nat.le_refl _))
             have k2 := hfr.block_ (heap_alloc_sndB w _ _ 75) (Lab1.new (Nat.le_succ _))
             have L1 := Lib.hid (Lab1.eq hfr (Nat.le_refl _) ((Blk.new w 75 _).alloc _).lt)
             have L2 := Lib.hid (Lab1.eq hfr (Nat.le_succ _) (heap_alloc_sndB w _ _ 75).lt)
             have u1 := k1.lt
             have u2 := k2.lt
             have f1 := k1.frozen
             have f2 := k2.frozen
             obtain ⟨a0, a1, a2, a3, a4, a5, a6, a7, a8, a9, a10⟩ := blk_cells11 k1
             obtain ⟨z0, z1, z2, z3, z4, z5, z6, z7, z8, z9, z10⟩ := blk_cells11 k2
             have HB := Lib.hid (And.intro hB hfr2)
             clear hB hfr hfr2 k1 k2))
        all_goals go_wp2_with fail
        all_goals refine bodyPost_ret (v := .tuple #[.agg #[.int .i64 op, .int .i64 n, .int .i64 phase, .int .i64 2, .int .i64 i, .int .i64 j, .int .u64 from_, .int .u64 min, .int .u64 val, (.int .u64 own), .slice da dn dc], .bool true]) ?_ rfl ?_
        all_goals first
          | (simp only [results, Tryz.results33]; go_simp; done)
          | (refine ⟨rfl, γ', ?_, ?_⟩
             · repeat (with_reducible first | exact HB.out.1 | refine RefAt.far L1.out _ _ ?_ | refine RefAt.far L2.out _ _ ?_)
             · repeat (with_reducible first | exact HB.out.2 | refine Fr.local_ (Nat.le_refl _) _ _ ?_ | refine Fr.local_ (Nat.le_succ _) _ _ ?_))
      · have hr : enterP M b t pc own = (false, (b.load t ((c0.un : Int) + 1)).2, pc, own) := by unfold enterP; rw [if_neg (fun hn => hn HE.out.1), if_neg hpc, ← HE.out.2.2, if_neg hown]
        rw [hr]
        clear hr
        have howb : ((b.load t ((c0.un : Int) + 1)).1 == own) = false := by simp [hown]
        go_enter Tryz.func33, Tryz.ntmps33
        go_wp2_with (go_at_call 31; refine (HH.out _ (by repeat (with_reducible first | exact Below.refl _ _ | refine Below.drew ?_ | refine below_drewN ?_ _ | refine Below.alloc ?_ (by simp) _))).mono ?_; rintro e w1 ⟨rfl, rfl⟩)
        go_region_with (first
          | (go_at_call 97; refine (HT.out _ (by repeat (with_reducible first | exact Below.refl _ _ | refine Below.drew ?_ | refine below_drewN ?_ _ | refine Below.alloc ?_ (by simp) _))).mono ?_; rintro e w1 ⟨rfl, rfl⟩)
          | (go_at_call 60
             refine (HO.out _ (by repeat (with_reducible first | exact Below.refl _ _ | refine Below.drew ?_ | refine below_drewN ?_ _ | refine Below.alloc ?_ (by simp) _))).mono ?_
             rintro e w3 ⟨rfl, γ', hB, hfr⟩
             have hfr2 := Fr.locals (by repeat (with_reducible first | exact Below.refl _ _ | refine Below.drew ?_ | refine below_drewN ?_ _ | refine Below.alloc ?_ (by simp) _)) hfr
             have k1 := hfr.block_ ((Blk.new w 75 _).alloc _) (Lab1.new (Nat.le_refl _))
             have k2 := hfr.block_ (heap_alloc_sndB w _ _ 75) (Lab1.new (Nat.le_succ _))
             have L1 := Lib.hid (Lab1.eq hfr (Nat.le_refl _) ((Blk.new w 75 _).alloc _).lt)
             have L2 := Lib.hid (Lab1.eq hfr (Nat.le_succ _) (heap_alloc_sndB w _ _ 75).lt)
             have u1 := k1.lt
             have u2 := k2.lt
             have f1 := k1.frozen
             have f2 := k2.frozen
             obtain ⟨a0, a1, a2, a3, a4, a5, a6, a7, a8, a9, a10⟩ := blk_cells11 k1
             obtain ⟨z0, z1, z2, z3, z4, z5, z6, z7, z8, z9, z10⟩ := blk_cells11 k2
             have HB := Lib.hid (And.intro hB hfr2)
             clear hB hfr hfr2 k1 k2))
        all_goals go_wp2_with fail
        all_goals refine bodyPost_ret (v := .tuple #[.agg #[.int .i64 op, .int .i64 n, .int .i64 phase, .int .i64 pc, .int .i64 i, .int .i64 j, .int .u64 from_, .int .u64 min, .int .u64 val, (.int .u64 own), .slice da dn dc], .bool false]) ?_ rfl ?_
        all_goals first
          | (simp only [results, Tryz.results33]; go_simp; done)
          | (refine ⟨rfl, γ', ?_, ?_⟩
             · repeat (with_reducible first | exact HB.out.1 | refine RefAt.far L1.out _ _ ?_ | refine RefAt.far L2.out _ _ ?_)
             · repeat (with_reducible first | exact HB.out.2 | refine Fr.local_ (Nat.le_refl _) _ _ ?_ | refine Fr.local_ (Nat.le_succ _) _ _ ?_))
  · rw [show decide (b.l.c.variant = 5) = false from decide_eq_false hv] at HH
    have hr : enterP M b t pc own = (true, b, pc, own) := by unfold enterP; rw [if_pos hv]
    rw [hr]
    clear hr
    go_enter Tryz.func33, Tryz.ntmps33
    go_wp2_with (go_at_call 31; refine (HH.out _ (by repeat (with_reducible first | exact Below.refl _ _ | refine Below.drew ?_ | refine below_drewN ?_ _ | refine Below.alloc ?_ (by simp) _))).mono ?_; rintro e w1 ⟨rfl, rfl⟩)
    refine bodyPost_ret (v := .tuple #[.agg #[.int .i64 op, .int .i64 n, .int .i64 phase, .int .i64 pc, .int .i64 i, .int .i64 j, .int .u64 from_, .int .u64 min, .int .u64 val, .int .u64 own, .slice da dn dc], .bool true]) ?_ rfl ?_
    · simp only [results, Tryz.results33]
      go_simp
    · refine ⟨rfl, γ, H.out.below ?_, Fr.of_below ?_ _ _⟩
      all_goals (repeat (with_reducible first | exact Below.refl _ _ | refine Below.drew ?_ | refine below_drewN ?_ _ | refine Below.setCell ?_ ?_ _ | refine Below.alloc ?_ ?_ _))
      all_goals (simp; try omega)
end
end Go.Proofs.YtmjpdojecdnkjaaGreat
