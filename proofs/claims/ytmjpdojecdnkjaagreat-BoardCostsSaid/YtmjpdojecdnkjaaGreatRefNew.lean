/- sakiaref12.New: the reference's board of a configuration has what a new board has. -/
import Derived.Test.YtmjpdojecdnkjaaGreatRefM
import Derived.Test.YtmjpdojecdnkjaaGreatLocked
namespace Go.Proofs.YtmjpdojecdnkjaaGreat
open Go.RowKit
set_option linter.unusedVariables false
set_option linter.unusedSimpArgs false
set_option maxHeartbeats 4000000

theorem rof11 (c : Cf) {up : List (List Int)} (hok : CfOk c up) (hun : c.un = up.length) (hst : 0 ≤ c.start ∧ c.start ≤ 18446744073709551615) (w : World) :
    Calls Tryz.prog 51 #[.agg c.vs.toArray] w (RowEnd 101 (rcOf c) w) := by
  obtain ⟨variant, width, cap, producers, start, ua, un, uc⟩ := c
  have h6 : un ≤ 6 := by have := hok.up.len; dsimp only at hun; omega
  have hv := hok.variant
  have hw := hok.width
  have hc := hok.cap
  dsimp only at hv hw hc hst
  have : variant = 1 ∨ variant = 2 ∨ variant = 3 ∨ variant = 4 ∨ variant = 5 := by omega
  rcases this with rfl | rfl | rfl | rfl | rfl
  · exact rof11_1 width cap producers start ua un uc hw hc hst h6 w
  · exact rof11_2 width cap producers start ua un uc hw hc hst h6 w
  · exact rof11_3 width cap producers start ua un uc hw hc hst h6 w
  · exact rof11_4 width cap producers start ua un uc hw hc hst h6 w
  · exact rof11_5 width cap producers start ua un uc hw hc hst h6 w
theorem own_base {w : World} {base base' e size n : Nat} {v : Value} {xs : List Value} (h : w.ownsRow base e size v n xs) (hb : base' ≤ base) : w.ownsRow base' e size v n xs := by
  refine ⟨h.1, ?_⟩
  rcases h.2 with hn | ⟨g, cap, cur, rfl, hbb, rest⟩
  · exact .inl hn
  · exact .inr ⟨g, cap, cur, rfl, Nat.le_trans hb hbb, rest⟩
theorem grown_undrew {w w2 : World} {o : Obj} {row : Option Nat} (h : (w.drew.alloc o).grownBy w2 row) : (w.alloc o).grownBy w2 row := ⟨h.os, h.tape, h.output, h.size, h.block⟩
structure RNInv (w wr : World) (q : Nat) (vs : List Value) (rc : List RC) (k : Nat) (cv hv : Value) : Prop where
  bel : Below w.heap.size w wr
  qb : w.heap.size ≤ q
  brd : Blk wr q 53 (vs ++ [cv, hv, .slice none 0 0]).toArray
  cel : wr.ownsRow w.heap.size 101 3 cv rc.length (rcsVs rc)
  has : wr.ownsRow w.heap.size 22 1 hv k ((rc.take k).map fun r => Value.int .u64 r.first)
theorem RNInv.step {w wr w2 : World} {q : Nat} {vs : List Value} {rc : List RC} {k : Nat} {cv hv nv : Value} {o : Obj} {r : RC} (h : RNInv w wr q vs rc k cv hv) (hl : vs.length = 6) (hgr : (wr.alloc o).grownBy w2 hv.ownBlock)
    (hown : w2.ownsRow w.heap.size 22 1 nv (k + 1) (((rc.take k).map fun r => Value.int .u64 r.first) ++ [.int .u64 r.first])) (hr : rc[k]? = some r) : RNInv w (w2.setCell ⟨q, 7, none⟩ nv) q vs rc (k + 1) cv nv := by
  obtain ⟨hbel, hqb, hbrd, hcel, hhas⟩ := h
  have hw := hbel.size
  have hh1 := hhas.alloc o
  have hr1 := hbrd.alloc o
  have hr2 := hr1.grown hgr (fun e => own_blk_ne hh1 hr1 (by decide) e.symm)
  have hc2 := (hcel.alloc o).kept hgr (own_own_ne (hcel.alloc o) hh1 (by decide))
  have hg3 := grown_setCell w2 q 7 nv
  refine ⟨?_, hqb, ?_, ?_, ?_⟩
  · have hb2 := below_grown (hbel.alloc hw o) hgr (fun g hg => (hhas.lt g hg).1) (by simp; omega)
    exact hb2.setCell hqb _
  · have h3 := hr2.set_ 7 nv
    have e : (vs ++ [cv, hv, .slice none 0 0]).toArray.setIfInBounds 7 nv = (vs ++ [cv, nv, .slice none 0 0]).toArray := by
      rw [List.setIfInBounds_toArray, List.set_append_right _ _ (by omega), hl]; rfl
    rw [e] at h3
    exact h3
  · exact hc2.kept hg3 (.inr (own_blk_ne hc2 hr2 (by decide)))
  · have h4 := hown.kept hg3 (.inr (own_blk_ne hown hr2 (by decide)))
    have e : (rc.take (k + 1)).map (fun r => Value.int .u64 r.first) = ((rc.take k).map fun r => Value.int .u64 r.first) ++ [.int .u64 r.first] := by
      rw [List.take_add_one, hr]; simp
    rw [e]
    exact h4
theorem u64_info : (Tryz.prog.info? 22).map (fun i => (i.zero, i.size, i.bytes)) = some (some (.int .u64 0), 1, 8) := by kernel_rfl
def RefNewEnd (c : Cf) (w : World) (e : Ending) (w' : World) : Prop := ∃ q cv hv, e = .returned (.pointer (some ⟨q, 0, none⟩)) ∧ RNInv w w' q c.vs (rcOf c) (rcOf c).length cv hv
theorem rnew12 (c : Cf) {up : List (List Int)} (hok : CfOk c up) (hun : c.un = up.length) (hst : 0 ≤ c.start ∧ c.start ≤ 18446744073709551615) (w : World) :
    Calls Tryz.prog 14 #[.agg c.vs.toArray] w (RefNewEnd c w) := by
  have hof := fun W => rof11 c hok hun hst W
  have hln := rcOf_len c hok.variant hok.cap
  have hcells : ((rcOf c).length : Int) ≤ 300 := by
    have := mkLay_cells hok.cap
    have hb := hok.cap.bd
    have := (mkLay_bd (c := c) (by have := hok.up.len; omega) hok.cap).slots
    omega
  unfold RefNewEnd
  generalize rcOf c = rc at *
  obtain ⟨i0, hinf⟩ := info_parts u64_info
  have HI := Lib.hid hinf
  clear hinf hln
  obtain ⟨variant, width, cap, producers, start, ua, un, uc⟩ := c
  unfold Cf.vs at *
  have HOF := Lib.hid hof
  clear hof hok hun hst
  go_enter Tryz.func14, Tryz.ntmps14
  go_wp2_with fail
  go_region_held3 (fun w' => w'.cell? ⟨w.heap.size, 0, none⟩ = some (.int .i64 variant) ∧ w'.cell? ⟨w.heap.size, 1, none⟩ = some (.int .i64 width) ∧ w'.cell? ⟨w.heap.size, 2, none⟩ = some (.int .i64 cap) ∧ w'.cell? ⟨w.heap.size, 3, none⟩ = some (.int .i64 producers) ∧ w'.cell? ⟨w.heap.size, 4, none⟩ = some (.int .u64 start) ∧ w'.cell? ⟨w.heap.size, 5, none⟩ = some (.slice ua un uc)) (go_keep)
    (first
    | (go_at_call 51
       refine (HOF.out _).mono ?_
       rintro e w1 ⟨cv, rfl, hrow, hb1⟩
       obtain ⟨A1, c1, rfl, _⟩ := own_form hrow
       obtain ⟨hc1, hf1⟩ := bcell hb1
       have HR := Lib.hid (And.intro hrow hb1)
       clear hrow hb1))
  go_wp2_with fail
  go_loopw [4] (fun i wr => ∃ (k : Nat) (hv : Value), i = .int .i64 k ∧ k ≤ rc.length ∧ RNInv w wr w1.heap.size [.int .i64 variant, .int .i64 width, .int .i64 cap, .int .i64 producers, .int .u64 start, .slice ua un uc] rc k (.slice A1 rc.length c1) hv) (fun i _ => rc.length - (intOf i).toNat)
  case atStart =>
    have hb1 : Below (w.heap.size + 1) _ w1 := HR.out.2.mono (by simp)
    have hb2 : Below w.heap.size w w1 := (((Below.refl w.heap.size w).alloc (Nat.le_refl _) _).drew).trans (HR.out.2.mono (by simp))
    refine ⟨0, .slice none 0 0, rfl, by omega, hb2.alloc hb2.size _, hb2.size, Blk.new _ _ _, (own_base HR.out.1 (by simp)).alloc _, World.ownsRow_nil _ _ _ _⟩
  case round =>
    obtain ⟨k, hv, rfl, hk, hinv⟩ := hrel
    have HINV := Lib.hid hinv
    obtain ⟨q0, q1, q2, q3, q4, q5, q6, q7, q8⟩ := blk_cells9 hinv.brd
    have hqf := hinv.brd.frozen 7
    have hql := hinv.brd.lt
    obtain ⟨A2, c2, rfl, _⟩ := own_form hinv.has
    by_cases hlt : k < rc.length
    · have hlti : (k : Int) < rc.length := by omega
      have hgr := List.getElem?_eq_getElem hlt
      generalize rc[k] = r at hgr
      obtain ⟨g, cp, hgv, hgl, _, _, hgc⟩ := rc_cell hinv.cel hgr rfl
      injection hgv with e1 e2 e3
      subst e1
      subst e3
      have HG := Lib.hid hgr
      have HK := Lib.hid (show k + 1 ≤ maxLen ∧ (k + 1) * 8 ≤ 140737488355328 from ⟨by unfold maxLen; omega, by omega⟩)
      clear hinv hgr
      go_wp2_with fail
      go_region_law (first
        | (refine step_append_lies _ rfl (.tmp 23) (.tmp 32) 50 rfl w.heap.size 22 i0 (.int .u64 0) 1 8 Tryz.underlying50 HI.out.1 HI.out.2.1 HI.out.2.2.1 HI.out.2.2.2 rfl (by decide) (.slice A2 k c2) k _ (by rfl) ((ownsRow_keep (w := wr) HINV.out.has (fun g hg => rfl)).alloc _) ⟨wr.heap.size, 0, none⟩ 1 1 [.int .u64 r.first] (by rfl) (by rfl) (news_one _ _ _) (one_int _ _) (by decide) HK.out.1 HK.out.2 (by have := HINV.out.bel.size; simp; omega) _ (by rfl) ?_
           intro g3 cc w2 hown hgrow hat hlt2
           have hgrow1 := grown_undrew hgrow
           have hq2 := HINV.out.brd.noted (by decide) ((own_base HINV.out.has (Nat.zero_le _)).alloc _) hgrow1 7
           have HST := Lib.hid (HINV.out.step rfl hgrow1 hown HG.out)
           have hz2 : w1.heap.size < w2.heap.size := Nat.lt_of_lt_of_le (Nat.lt_of_lt_of_le hql (by simp)) hgrow.size
           clear hown hgrow hgrow1 hat hlt2))
      all_goals go_wp2_with fail
      all_goals go_round
      any_goals (case rel => exact ⟨k + 1, _, by go_num, by omega, HST.out⟩)
      all_goals (simp only [intOf]; omega)
    · obtain rfl : k = rc.length := by omega
      have hnl : ¬ (rc.length : Int) < rc.length := by omega
      clear hinv
      go_wp2_with fail
      go_ret
      first | exact ⟨w1.heap.size, rfl, _, _, HINV.out⟩ | exact ⟨w1.heap.size, _, _, rfl, HINV.out⟩
theorem hasOf_new (c : Cf) (hv : 1 ≤ c.variant ∧ c.variant ≤ 5) (hc : Cap2 c.cap) : hasOf (newBS (mkLay c)) = (rcOf c).map RC.first := by
  have hce := mkLay_cells hc
  have hb := hc.bd
  have hl := rcOf_len c hv hc
  have hs := mkLay_slots hc
  have hn1 : (newBS (mkLay c)).cells.length = (mkLay c).slots.toNat := newBS_len _
  have hn2 : ((newBS (mkLay c)).data.map u64I).length = c.cap.toNat := by rw [List.length_map]; show (List.replicate (mkLay c).c.cap.toNat (0 : Int)).length = _; rw [List.length_replicate, mkLay_c]
  apply List.ext_getElem?
  intro k
  by_cases hk : (k : Int) < (mkLay c).cells
  · obtain ⟨nm, he⟩ := rcOf_at c hv hc k hk
    rw [List.getElem?_map, he]
    show _ = some ((mkLay c).first k)
    unfold hasOf
    by_cases h1 : (k : Int) < (mkLay c).slots
    · rw [List.getElem?_append_left (by omega)]
      exact newBS_at (mkLay c) k h1
    · rw [List.getElem?_append_right (by omega), hn1]
      have h0 : (mkLay c).first k = 0 := by unfold Lay.first; rw [if_pos (by omega)]
      rw [h0, List.getElem?_map]
      show Option.map u64I ((List.replicate (mkLay c).c.cap.toNat (0 : Int))[k - (mkLay c).slots.toNat]?) = _
      rw [mkLay_c, List.getElem?_replicate, if_pos (by omega)]
      rfl
  · rw [List.getElem?_eq_none (by unfold hasOf; rw [List.length_append]; omega), List.getElem?_eq_none (by rw [List.length_map]; omega)]
theorem refNew_at {c c1 : Cf} {w w' : World} {e : Ending} (hv : 1 ≤ c.variant ∧ c.variant ≤ 5) (hc : Cap2 c.cap) (h1 : c1 = { c with ua := c1.ua, uc := c1.uc }) (h : RefNewEnd c w e w') :
    ∃ q, e = .returned (.pointer (some ⟨q, 0, none⟩)) ∧ Below w.heap.size w w' ∧ w.heap.size ≤ q ∧ ∀ γ id, RefAt w' (Lab w γ id) id q c (newBS (mkLay c1)) ∧ Fr NoId γ (Lab w γ id) w w' := by
  obtain ⟨q, cv, hv', rfl, hi⟩ := h
  have lab : ∀ γ id g, w.heap.size ≤ g → Lab w γ id g = id := fun γ id g hg => by unfold Lab; rw [if_neg (by omega)]
  have hm : mkLay c1 = { mkLay c with c := c1 } := by
    rw [h1]; unfold mkLay; dsimp only; split <;> (try split) <;> rfl
  have hh : hasOf (newBS (mkLay c1)) = hasOf (newBS (mkLay c)) := by
    rw [hm]
    unfold hasOf newBS
    dsimp only
    have e1 : c1.cap = (mkLay c).c.cap := by rw [mkLay_c, h1]
    rw [e1]
    congr 1
    apply List.map_congr_left
    intro k _
    unfold Lay.first
    dsimp only
    rw [mkLay_c, h1]
    rfl
  have hlen := rcOf_len c hv hc
  refine ⟨q, rfl, hi.bel, hi.qb, fun γ id => ⟨⟨rcOf c, cv, hv', .slice none 0 0, ⟨hi.brd, lab _ _ _ hi.qb, ⟨own_mono hi.cel, fun g hg => lab _ _ _ (hi.cel.lt g hg).1⟩, ⟨?_, fun g hg => lab _ _ _ (hi.has.lt g hg).1⟩, ⟨World.ownsRow_nil _ _ _ _, fun g hg => by simp [Value.ownBlock] at hg⟩⟩, ?_⟩, (Fr.of_below hi.bel _ γ).relabel _⟩⟩
  · have h2 := own_mono hi.has
    rw [List.take_length] at h2
    have e : (hasOf (newBS (mkLay c1))).map (Value.int .u64) = (rcOf c).map fun r => Value.int .u64 r.first := by rw [hh, hasOf_new c hv hc, List.map_map]; rfl
    rw [e, show (hasOf (newBS (mkLay c1))).length = (rcOf c).length by rw [hh, hasOf_new c hv hc, List.length_map]]
    exact h2
  · have hc1 : (newBS (mkLay c1)).l.c = c1 := by show (mkLay c1).c = c1; exact mkLay_c c1
    have hl1 : (newBS (mkLay c1)).l = { mkLay c with c := c1 } := hm
    refine ⟨?_, ?_, ?_, ?_, ?_, ?_, ?_⟩
    · rw [hc1, h1]
    · rw [hc1, h1]
    · rw [hc1, h1]
    · rw [hc1, h1]
    · rw [hc1, h1]
    · rw [hl1]; exact hlen
    · intro k r hr
      have hk : (k : Int) < (mkLay c).cells := by have := (List.getElem?_eq_some_iff.1 hr).1; omega
      obtain ⟨nm, he⟩ := rcOf_at c hv hc k hk
      rw [he] at hr
      cases hr
      rw [hl1]; rfl
end Go.Proofs.YtmjpdojecdnkjaaGreat
