/- board.New of a layout of a configuration that may be, of its own width. -/
import Derived.Test.YtnkmlopjinihiaaDoorBoardP
import Derived.Test.YtnkmlopjinihiaaDoorFirst
import Derived.Test.YtnkmlopjinihiaaDoorOwn
import Derived.RegionTactic
import Derived.BigRegion
import Derived.Deep.RegionLaw
namespace Go.Proofs.YtnkmlopjinihiaaDoor
open Go.RowKit
set_option linter.unusedVariables false
set_option linter.unusedSimpArgs false
set_option maxHeartbeats 8000000

theorem acc_info : (Tryd.prog.info? 208).map (fun i => (i.zero, i.size, i.bytes)) = some (some (.agg #[.int .i64 0, .int .i64 0, .int .i64 0, .int .u64 0, .int .u64 0]), 5, 40) := by kernel_rfl
theorem w_info32 : (Tryd.prog.info? 48).map (fun i => (i.zero, i.size, i.bytes)) = some (some (.int .u32 0), 1, (32 / 8)) := by kernel_rfl
theorem w_info64 : (Tryd.prog.info? 22).map (fun i => (i.zero, i.size, i.bytes)) = some (some (.int .u64 0), 1, (64 / 8)) := by kernel_rfl
theorem iint_info : (Tryd.prog.info? 3).map (fun i => (i.zero, i.size, i.bytes)) = some (some (.int .i64 0), 1, 8) := by kernel_rfl

theorem made_zero (n : Nat) : (madeCells (Value.int .i64 0).cells n).toList = (List.replicate n (0 : Int)).map (Value.int .i64) := by
  apply List.ext_getElem
  · simp [madeCells]
  · intro i h1 h2
    simp [madeCells, Value.cells, Nat.mod_one]
theorem one_int (k : IntKind) (x : Int) : ∀ u ∈ [Value.int k x], u.oneCell' = true := by simp [Value.oneCell']
theorem news_one (w : World) (t : TypeId) (v : Value) : ∀ j u, [v][j]? = some u → (w.alloc (.cells #[v] t)).cell? ((⟨w.heap.size, 0, none⟩ : Addr).add j) = some u :=
  World.news_of_block (heap_alloc_new w (.cells #[v] t))
/-- in the middle of the making: k cells are laid -/
structure NewInv (tL tB tW : TypeId) (kd : IntKind) (w wr : World) (vs : List Value) (cap : Nat) (xs : List Int) (k : Nat) (cv : Value) : Prop where
  bel : Below w.heap.size w wr
  box : Blk wr w.heap.size tL vs.toArray
  brd : Blk wr (w.heap.size + 1 + 1) tB (vs ++ [cv, .slice (some ⟨w.heap.size + 1, 0, none⟩) cap cap, .slice none 0 0]).toArray
  dat : wr.ownsRow w.heap.size 3 1 (.slice (some ⟨w.heap.size + 1, 0, none⟩) cap cap) cap ((List.replicate cap (0 : Int)).map (Value.int .i64))
  cel : wr.ownsRow w.heap.size tW 1 cv k ((xs.take k).map (Value.int kd))
theorem NewInv.start (tL tB tW : TypeId) (kd : IntKind) (w : World) (vs : List Value) (cap : Nat) (hcap : cap ≤ 64) (xs : List Int) (n : Nat) :
    NewInv tL tB tW kd w ((((w.alloc (.cells vs.toArray tL)).drewN n).alloc (.cells (madeCells (Value.int .i64 0).cells cap) 3)).alloc (.cells (vs ++ [Value.slice none 0 0, Value.slice (some ⟨w.heap.size + 1, 0, none⟩) cap cap, Value.slice none 0 0]).toArray tB)) vs cap xs 0 (.slice none 0 0) := by
  have h0 : ((w.alloc (.cells vs.toArray tL)).drewN n).heap.size = w.heap.size + 1 := by simp
  refine ⟨?_, ?_, ?_, ?_, World.ownsRow_nil _ _ _ _⟩
  · exact ((below_drewN ((Below.refl _ _).alloc (Nat.le_refl _) _) n).alloc (by simp) _).alloc (by simp; omega) _
  · exact ((((Blk.new w tL vs.toArray)).drewN n).alloc _).alloc _
  · have h1 := heap_alloc_new (((w.alloc (.cells vs.toArray tL)).drewN n).alloc (.cells (madeCells (Value.int .i64 0).cells cap) 3)) (.cells (vs ++ [Value.slice none 0 0, Value.slice (some ⟨w.heap.size + 1, 0, none⟩) cap cap, Value.slice none 0 0]).toArray tB)
    unfold Blk
    simpa using h1
  · refine World.ownsRow.alloc ?_ _
    refine ⟨by simp, .inr ⟨w.heap.size + 1, cap, madeCells (Value.int .i64 0).cells cap, rfl, by omega, ?_, Nat.le_refl _, by simp [maxLen]; omega, by simp [size_madeCells], ?_⟩⟩
    · have h1 := heap_alloc_new ((w.alloc (.cells vs.toArray tL)).drewN n) (.cells (madeCells (Value.int .i64 0).cells cap) 3)
      rw [h0] at h1
      exact h1
    · rw [made_zero, Nat.mul_one, List.take_of_length_le (by simp)]
def NewEnd (tB tW : TypeId) (kd : IntKind) (l : Lay) (w : World) (e : Ending) (w' : World) : Prop :=
  ∃ p cv dv, e = .returned (.pointer (some ⟨p, 0, none⟩)) ∧ Below w.heap.size w w' ∧ w.heap.size ≤ p ∧ Blk w' p tB (l.vs ++ [cv, dv, .slice none 0 0]).toArray ∧
      w'.ownsRow w.heap.size tW 1 cv (newBS l).cells.length ((newBS l).cells.map (Value.int kd)) ∧ w'.ownsRow w.heap.size 3 1 dv (newBS l).data.length ((newBS l).data.map (Value.int .i64))
theorem NewInv.end_ {tL tB tW : TypeId} {kd : IntKind} {l : Lay} {w wr : World} {k : Nat} {cv : Value} (h : NewInv tL tB tW kd w wr l.vs l.c.cap.toNat (newBS l).cells k cv) (hk : (k : Int) = l.slots) (n : Nat) :
    NewEnd tB tW kd l w (.returned (.pointer (some ⟨w.heap.size + 1 + 1, 0, none⟩))) (wr.drewN n) := by
  obtain ⟨hbel, hbox, hbrd, hdat, hcel⟩ := h
  have hl : (newBS l).cells.length = k := by rw [newBS_len]; omega
  have hd : (newBS l).data.length = l.c.cap.toNat := by simp [newBS]
  rw [List.take_of_length_le (by omega)] at hcel
  rw [← hl] at hcel
  exact ⟨_, cv, _, rfl, below_drewN hbel n, by omega, hbrd.drewN n, hcel, by rw [hd]; exact hdat⟩
theorem NewInv.frozen {tL tB tW : TypeId} {kd : IntKind} {w wr w1 w2 : World} {vs : List Value} {cap : Nat} {xs : List Int} {k c1 : Nat} {A1 : Option Addr} {o : Obj} (hl : vs.length = 14) (hB : tW ≠ tB)
    (h : NewInv tL tB tW kd w wr vs cap xs k (.slice A1 k c1)) (hb1 : Below wr.heap.size wr w1) (hgr : (w1.alloc o).grownBy w2 (Value.slice A1 k c1).ownBlock) : w2.cell? ⟨w.heap.size + 1 + 1, 14, none⟩ = some (.slice A1 k c1) ∧ w2.frozen? ⟨w.heap.size + 1 + 1, 14, none⟩ = false := by
  obtain ⟨hbel, hbox, hbrd, hdat, hcel⟩ := h
  have hc1 : (w1.alloc o).ownsRow w.heap.size tW 1 (.slice A1 k c1) k ((xs.take k).map (Value.int kd)) := (ownsRow_keep hcel fun g hg => hb1.block g (hcel.lt g hg).2).alloc o
  have hr1 : Blk (w1.alloc o) (w.heap.size + 1 + 1) tB _ := (hbrd.below hb1 hbrd.lt).alloc o
  have hr2 := hr1.grown hgr (fun e => own_blk_ne hc1 hr1 hB e.symm)
  exact ⟨(hr2.cell 14).trans (by simp [List.getElem?_append_right, hl]), hr2.frozen 14⟩
theorem NewInv.step {tL tB tW : TypeId} {kd : IntKind} {w wr w1 w2 : World} {vs : List Value} {cap : Nat} {xs : List Int} {k c1 : Nat} {A1 : Option Addr} {nv : Value} {x : Int} {o : Obj} (hL : tW ≠ tL) (hB : tW ≠ tB) (hI : 3 ≠ tW) (hl : vs.length = 14)
    (h : NewInv tL tB tW kd w wr vs cap xs k (.slice A1 k c1)) (hb1 : Below wr.heap.size wr w1) (hgr : (w1.alloc o).grownBy w2 (Value.slice A1 k c1).ownBlock)
    (hown : w2.ownsRow w.heap.size tW 1 nv (k + 1) ((xs.take k).map (Value.int kd) ++ [.int kd x])) (hx : xs[k]? = some x) :
    NewInv tL tB tW kd w (w2.setCell ⟨w.heap.size + 1 + 1, 14, none⟩ nv) vs cap xs (k + 1) nv := by
  obtain ⟨hbel, hbox, hbrd, hdat, hcel⟩ := h
  have hc1 : (w1.alloc o).ownsRow w.heap.size tW 1 (.slice A1 k c1) k ((xs.take k).map (Value.int kd)) := (ownsRow_keep hcel fun g hg => hb1.block g (hcel.lt g hg).2).alloc o
  have hd1 : (w1.alloc o).ownsRow w.heap.size 3 1 (.slice (some ⟨w.heap.size + 1, 0, none⟩) cap cap) cap _ := (ownsRow_keep hdat fun g hg => hb1.block g (hdat.lt g hg).2).alloc o
  have ho1 : Blk (w1.alloc o) w.heap.size tL _ := (hbox.below hb1 hbox.lt).alloc o
  have hr1 : Blk (w1.alloc o) (w.heap.size + 1 + 1) tB _ := (hbrd.below hb1 hbrd.lt).alloc o
  have ho2 := ho1.grown hgr (fun e => own_blk_ne hc1 ho1 hL e.symm)
  have hr2 := hr1.grown hgr (fun e => own_blk_ne hc1 hr1 hB e.symm)
  have hd2 := hd1.kept hgr (own_own_ne hd1 hc1 hI)
  have hne := own_blk_ne hown hr2 hB
  refine ⟨?_, ?_, ?_, ?_, ?_⟩
  · have hb2 : Below w.heap.size w (w1.alloc o) := (hbel.trans (hb1.mono hbel.size)).alloc (by have := hb1.size; have := hbel.size; omega) _
    have hb3 : Below w.heap.size w w2 := ⟨hgr.os.trans hb2.os, hgr.tape.trans hb2.tape, hgr.output.trans hb2.output, Nat.le_trans hb2.size hgr.size, fun i hi => (hgr.block i (Nat.lt_of_lt_of_le hi hb2.size) (fun e => by have := (hc1.lt i e.symm).1; omega)).trans (hb2.block i hi)⟩
    exact hb3.setCell (p := ⟨w.heap.size + 1 + 1, 14, none⟩) (by show w.heap.size ≤ w.heap.size + 1 + 1; omega) _
  · exact ho2.far (by show w.heap.size ≠ w.heap.size + 1 + 1; omega) _
  · have h3 := hr2.set_ 14 nv
    have e : (vs ++ [Value.slice A1 k c1, Value.slice (some ⟨w.heap.size + 1, 0, none⟩) cap cap, Value.slice none 0 0]).toArray.setIfInBounds 14 nv = (vs ++ [nv, Value.slice (some ⟨w.heap.size + 1, 0, none⟩) cap cap, Value.slice none 0 0]).toArray := by
      rw [List.setIfInBounds_toArray, List.set_append_right _ _ (by omega)]
      simp [hl]
    rw [e] at h3
    exact h3
  · exact hd2.kept (grown_setCell w2 _ 14 nv) (.inr (by simp [Value.ownBlock]))
  · have h4 := hown.kept (grown_setCell w2 _ 14 nv) (.inr hne)
    rw [List.take_add_one, hx]
    simpa using h4
theorem bnew32 (Bk : Nat → Prop) (c : Cf) (up : List (List Int)) (hun : c.un = up.length) (hok : CfOk c up) (hw32 : c.width = 32) (hst : 0 ≤ c.start ∧ c.start ≤ 18446744073709551615) (hll : ∀ l ∈ up, l.length ≤ 1000000) (w : World) (hB : ∀ b, Bk b → b < w.heap.size) (hU : UpAt w Bk c.ua up) :
    Calls Tryd.prog 28 #[.agg (mkLay c).vs.toArray] w (NewEnd 132 48 .u32 (mkLay c) w) := by
  have hbd := mkLay_bd (c := c) (by have := hok.up.len; omega) hok.cap
  have hmk := mkLay_c c
  have hce := mkLay_cells hok.cap
  have hcap := hok.cap.bd
  have hfr : ∀ k : Int, InM M32 ((mkLay c).first k) := fun k => MW_32 ▸ hw32 ▸ Lay.first_in' hok.cap k
  have hfi := fun (k : Int) hk W (hW : Below w.heap.size w W) => lfirst Bk c up hun hok hst hll k hk W (fun b hb => Nat.lt_of_lt_of_le (hB b hb) hW.size) (hU.below hW hB)
  generalize mkLay c = l at *
  subst hmk
  obtain ⟨i0, hi, hz0, hz1, hz2⟩ := info_parts iint_info
  have hmake := fun W => run_make (P := Tryd.prog) W 58 3 i0 (.int .i64 0) Tryd.underlying58 hi hz0 .i64 .i64 l.c.cap l.c.cap (by omega) (by omega) (by rw [hz2]; omega) (by omega)
  simp only [hz1, Nat.mul_one] at hmake
  have hsl := hbd.slots
  have e0 : (l.cells == 0) = false := by simp; omega
  have e1 : (l.c.width != 32) = false := by simp [hw32]
  obtain ⟨⟨variant, width, cap, producers, start, ua, un, uc⟩, cursor, claim, ticket, serving, next, marks, slots, cells⟩ := l
  simp only at *
  subst hw32
  unfold Lay.vs at hfi
  have HFI := Lib.hid hfi
  have HCE := Lib.hid hfr
  clear hfr
  clear hfi hce hU hB hll hun hok hst hbd
  unfold Lay.vs
  go_enter Tryd.func28, Tryd.ntmps28
  go_wp2_with fail
  go_quiet ((go_at_call 96; exact quiet_left (bits32 _)))
  go_wp2_with fail
  go_region
  go_wp2_with fail
  go_loopw [24] (fun i wr => ∃ (k : Nat) (cv : Value), i = .int .i64 k ∧ (k : Int) ≤ slots ∧ NewInv 30 132 48 .u32 w wr (Lay.vs ⟨⟨variant, 32, cap, producers, start, ua, un, uc⟩, cursor, claim, ticket, serving, next, marks, slots, cells⟩) cap.toNat (newBS ⟨⟨variant, 32, cap, producers, start, ua, un, uc⟩, cursor, claim, ticket, serving, next, marks, slots, cells⟩).cells k cv) (fun i _ => slots.toNat - (intOf i).toNat)
  case atStart =>
    exact ⟨0, .slice none 0 0, rfl, by omega, NewInv.start _ _ _ _ w _ cap.toNat (by omega) _ _⟩
  case round =>
    obtain ⟨k, cv, rfl, hk, hinv⟩ := hrel
    have HINV := Lib.hid hinv
    obtain ⟨hbel, hbox, hbrd, hdat, hcel⟩ := hinv
    unfold Lay.vs at hbox hbrd
    by_cases hlt : (k : Int) < slots
    · obtain ⟨p0, p1, p2, p3, p4, p5, p6, p7, p8, p9, p10, p11, p12, p13⟩ := blk_cells14 hbox
      obtain ⟨q0, q1, q2, q3, q4, q5, q6, q7, q8, q9, q10, q11, q12, q13, q14, q15, q16⟩ := blk_cells17 hbrd
      clear q0 q1 q2 q3 q4 q5 q6 q7 q8 q9 q10 q11 q12 q13 q15 q16
      obtain ⟨A1, c1, rfl, hc1⟩ := own_form hcel
      have hpl := hbrd.lt
      have hbs := hbel.size
      have hx : (newBS ⟨⟨variant, 32, cap, producers, start, ua, un, uc⟩, cursor, claim, ticket, serving, next, marks, slots, cells⟩).cells[k]? = some (cutM M32 (Lay.first ⟨⟨variant, 32, cap, producers, start, ua, un, uc⟩, cursor, claim, ticket, serving, next, marks, slots, cells⟩ (k : Int))) := by rw [newBS_at _ k hlt, cut_id32 (HCE.out (k : Int))]
      have HX := Lib.hid hx
      have HBRD := Lib.hid hbrd
      have HK := Lib.hid (show k + 1 ≤ maxLen ∧ (k + 1) * (32 / 8) ≤ 140737488355328 from ⟨by unfold maxLen; omega, by omega⟩)
      have HCEL := Lib.hid hcel
      have HK2 := Lib.hid (show 0 ≤ (k : Int) ∧ (k : Int) ≤ 200 from by omega)
      have HBEL := Lib.hid hbel
      clear hx hbox hbrd hdat hcel hbel
      obtain ⟨j0, hj, hy0, hy1, hy2⟩ := info_parts w_info32
      go_wp2_with fail
      go_region_law (first
        | (go_simp; go_at_call 47; refine (HFI.out (k : Int) HK2.out _ HBEL.out.drew).mono ?_; rintro e w1 ⟨rfl, hb1⟩; have hb2 : Below wr.heap.size wr w1 := ⟨hb1.os, hb1.tape, hb1.output, hb1.size, hb1.block⟩; have q14z := (hb2.cell (p := ⟨w.heap.size + 1 + 1, 14, none⟩) hpl).trans q14; have hpl1 : w.heap.size + 1 + 1 < w1.heap.size := Nat.lt_of_lt_of_le hpl hb2.size; have HB2 := Lib.hid hb2; clear hb1 hb2)
        | (go_simp; go_at_call 32; refine (of32 _ (inM_u64_32 (HCE.out (k : Int))) _).mono ?_; rintro e w' ⟨rfl, rfl⟩)
        | (refine step_append_lies _ rfl (.tmp 31) (.tmp 36) 130 rfl w.heap.size 48 j0 (.int .u32 0) 1 (32 / 8) Tryd.underlying130 hj hy0 hy1 hy2 rfl (by decide) (.slice A1 k c1) k _ rfl ((ownsRow_keep (w := wr) HCEL.out fun g hg => HB2.out.block g (HCEL.out.lt g hg).2).alloc _) ⟨w1.heap.size, 0, none⟩ 1 1 [.int .u32 (cutM M32 (Lay.first ⟨⟨variant, 32, cap, producers, start, ua, un, uc⟩, cursor, claim, ticket, serving, next, marks, slots, cells⟩ k))] rfl rfl (news_one _ _ _) (one_int _ _) (by decide) HK.out.1 HK.out.2 (by have := HB2.out.size; have := HBEL.out.size; simp; omega) _ rfl ?_; intro g cc w2 hown hgrow hat hlt2; have hfz := NewInv.frozen (hl := rfl) (o := .cells #[.int .u32 (cutM M32 (Lay.first ⟨⟨variant, 32, cap, producers, start, ua, un, uc⟩, cursor, claim, ticket, serving, next, marks, slots, cells⟩ k))] 48) (by decide) HINV.out HB2.out hgrow; have HOWN := Lib.hid hown; have HGR := Lib.hid hgrow; clear hown hgrow hat hlt2))
      all_goals go_wp2_with fail
      all_goals go_round
      case rel => exact ⟨k + 1, _, by go_num, by omega, NewInv.step (by decide) (by decide) (by decide) rfl HINV.out HB2.out HGR.out HOWN.out HX.out⟩
      case rel => exact ⟨k + 1, _, by go_num, by omega, NewInv.step (by decide) (by decide) (by decide) rfl HINV.out HB2.out HGR.out HOWN.out HX.out⟩
      case rel => exact ⟨k + 1, _, by go_num, by omega, NewInv.step (by decide) (by decide) (by decide) rfl HINV.out HB2.out HGR.out HOWN.out HX.out⟩
      case rel => exact ⟨k + 1, _, by go_num, by omega, NewInv.step (by decide) (by decide) (by decide) rfl HINV.out HB2.out HGR.out HOWN.out HX.out⟩
      case rel => exact ⟨k + 1, _, by go_num, by omega, NewInv.step (by decide) (by decide) (by decide) rfl HINV.out HB2.out HGR.out HOWN.out HX.out⟩
      all_goals (simp only [intOf]; omega)
    · have hke : (k : Int) = slots := by omega
      have hx := Lib.hid hke
      clear hke
      have hbl := hbox.lt
      have HBOX := Lib.hid hbox
      have HBRD := Lib.hid hbrd
      have HDAT := Lib.hid hdat
      have HCEL := Lib.hid hcel
      have HBEL := Lib.hid hbel
      clear hbox hbrd hdat hcel hbel
      go_wp2_with fail
      go_ret
      exact NewInv.end_ HINV.out hx.out 0
theorem bnew64 (Bk : Nat → Prop) (c : Cf) (up : List (List Int)) (hun : c.un = up.length) (hok : CfOk c up) (hw64 : c.width = 64) (hst : 0 ≤ c.start ∧ c.start ≤ 18446744073709551615) (hll : ∀ l ∈ up, l.length ≤ 1000000) (w : World) (hB : ∀ b, Bk b → b < w.heap.size) (hU : UpAt w Bk c.ua up) :
    Calls Tryd.prog 39 #[.agg (mkLay c).vs.toArray] w (NewEnd 142 22 .u64 (mkLay c) w) := by
  have hbd := mkLay_bd (c := c) (by have := hok.up.len; omega) hok.cap
  have hmk := mkLay_c c
  have hce := mkLay_cells hok.cap
  have hcap := hok.cap.bd
  have hfr : ∀ k : Int, InM M64 ((mkLay c).first k) := fun k => MW_64 ▸ hw64 ▸ Lay.first_in' hok.cap k
  have hfi := fun (k : Int) hk W (hW : Below w.heap.size w W) => lfirst Bk c up hun hok hst hll k hk W (fun b hb => Nat.lt_of_lt_of_le (hB b hb) hW.size) (hU.below hW hB)
  generalize mkLay c = l at *
  subst hmk
  obtain ⟨i0, hi, hz0, hz1, hz2⟩ := info_parts iint_info
  have hmake := fun W => run_make (P := Tryd.prog) W 58 3 i0 (.int .i64 0) Tryd.underlying58 hi hz0 .i64 .i64 l.c.cap l.c.cap (by omega) (by omega) (by rw [hz2]; omega) (by omega)
  simp only [hz1, Nat.mul_one] at hmake
  have hsl := hbd.slots
  have e0 : (l.cells == 0) = false := by simp; omega
  have e1 : (l.c.width != 64) = false := by simp [hw64]
  obtain ⟨⟨variant, width, cap, producers, start, ua, un, uc⟩, cursor, claim, ticket, serving, next, marks, slots, cells⟩ := l
  simp only at *
  subst hw64
  unfold Lay.vs at hfi
  have HFI := Lib.hid hfi
  have HCE := Lib.hid hfr
  clear hfr
  clear hfi hce hU hB hll hun hok hst hbd
  unfold Lay.vs
  go_enter Tryd.func39, Tryd.ntmps39
  go_wp2_with fail
  go_quiet ((go_at_call 106; exact quiet_left (bits64 _)))
  go_wp2_with fail
  go_region
  go_wp2_with fail
  go_loopw [24] (fun i wr => ∃ (k : Nat) (cv : Value), i = .int .i64 k ∧ (k : Int) ≤ slots ∧ NewInv 30 142 22 .u64 w wr (Lay.vs ⟨⟨variant, 64, cap, producers, start, ua, un, uc⟩, cursor, claim, ticket, serving, next, marks, slots, cells⟩) cap.toNat (newBS ⟨⟨variant, 64, cap, producers, start, ua, un, uc⟩, cursor, claim, ticket, serving, next, marks, slots, cells⟩).cells k cv) (fun i _ => slots.toNat - (intOf i).toNat)
  case atStart =>
    exact ⟨0, .slice none 0 0, rfl, by omega, NewInv.start _ _ _ _ w _ cap.toNat (by omega) _ _⟩
  case round =>
    obtain ⟨k, cv, rfl, hk, hinv⟩ := hrel
    have HINV := Lib.hid hinv
    obtain ⟨hbel, hbox, hbrd, hdat, hcel⟩ := hinv
    unfold Lay.vs at hbox hbrd
    by_cases hlt : (k : Int) < slots
    · obtain ⟨p0, p1, p2, p3, p4, p5, p6, p7, p8, p9, p10, p11, p12, p13⟩ := blk_cells14 hbox
      obtain ⟨q0, q1, q2, q3, q4, q5, q6, q7, q8, q9, q10, q11, q12, q13, q14, q15, q16⟩ := blk_cells17 hbrd
      clear q0 q1 q2 q3 q4 q5 q6 q7 q8 q9 q10 q11 q12 q13 q15 q16
      obtain ⟨A1, c1, rfl, hc1⟩ := own_form hcel
      have hpl := hbrd.lt
      have hbs := hbel.size
      have hx : (newBS ⟨⟨variant, 64, cap, producers, start, ua, un, uc⟩, cursor, claim, ticket, serving, next, marks, slots, cells⟩).cells[k]? = some (cutM M64 (Lay.first ⟨⟨variant, 64, cap, producers, start, ua, un, uc⟩, cursor, claim, ticket, serving, next, marks, slots, cells⟩ (k : Int))) := by rw [newBS_at _ k hlt, cut_id64 (HCE.out (k : Int))]
      have HX := Lib.hid hx
      have HBRD := Lib.hid hbrd
      have HK := Lib.hid (show k + 1 ≤ maxLen ∧ (k + 1) * (64 / 8) ≤ 140737488355328 from ⟨by unfold maxLen; omega, by omega⟩)
      have HCEL := Lib.hid hcel
      have HK2 := Lib.hid (show 0 ≤ (k : Int) ∧ (k : Int) ≤ 200 from by omega)
      have HBEL := Lib.hid hbel
      clear hx hbox hbrd hdat hcel hbel
      obtain ⟨j0, hj, hy0, hy1, hy2⟩ := info_parts w_info64
      go_wp2_with fail
      go_region_law (first
        | (go_simp; go_at_call 47; refine (HFI.out (k : Int) HK2.out _ HBEL.out.drew).mono ?_; rintro e w1 ⟨rfl, hb1⟩; have hb2 : Below wr.heap.size wr w1 := ⟨hb1.os, hb1.tape, hb1.output, hb1.size, hb1.block⟩; have q14z := (hb2.cell (p := ⟨w.heap.size + 1 + 1, 14, none⟩) hpl).trans q14; have hpl1 : w.heap.size + 1 + 1 < w1.heap.size := Nat.lt_of_lt_of_le hpl hb2.size; have HB2 := Lib.hid hb2; clear hb1 hb2)
        | (go_simp; go_at_call 107; refine (of64 _ (inM_u64_64 (HCE.out (k : Int))) _).mono ?_; rintro e w' ⟨rfl, rfl⟩)
        | (refine step_append_lies _ rfl (.tmp 31) (.tmp 36) 54 rfl w.heap.size 22 j0 (.int .u64 0) 1 (64 / 8) Tryd.underlying54 hj hy0 hy1 hy2 rfl (by decide) (.slice A1 k c1) k _ rfl ((ownsRow_keep (w := wr) HCEL.out fun g hg => HB2.out.block g (HCEL.out.lt g hg).2).alloc _) ⟨w1.heap.size, 0, none⟩ 1 1 [.int .u64 (cutM M64 (Lay.first ⟨⟨variant, 64, cap, producers, start, ua, un, uc⟩, cursor, claim, ticket, serving, next, marks, slots, cells⟩ k))] rfl rfl (news_one _ _ _) (one_int _ _) (by decide) HK.out.1 HK.out.2 (by have := HB2.out.size; have := HBEL.out.size; simp; omega) _ rfl ?_; intro g cc w2 hown hgrow hat hlt2; have hfz := NewInv.frozen (hl := rfl) (o := .cells #[.int .u64 (cutM M64 (Lay.first ⟨⟨variant, 64, cap, producers, start, ua, un, uc⟩, cursor, claim, ticket, serving, next, marks, slots, cells⟩ k))] 22) (by decide) HINV.out HB2.out hgrow; have HOWN := Lib.hid hown; have HGR := Lib.hid hgrow; clear hown hgrow hat hlt2))
      all_goals go_wp2_with fail
      all_goals go_round
      case rel => exact ⟨k + 1, _, by go_num, by omega, NewInv.step (by decide) (by decide) (by decide) rfl HINV.out HB2.out HGR.out HOWN.out HX.out⟩
      case rel => exact ⟨k + 1, _, by go_num, by omega, NewInv.step (by decide) (by decide) (by decide) rfl HINV.out HB2.out HGR.out HOWN.out HX.out⟩
      case rel => exact ⟨k + 1, _, by go_num, by omega, NewInv.step (by decide) (by decide) (by decide) rfl HINV.out HB2.out HGR.out HOWN.out HX.out⟩
      case rel => exact ⟨k + 1, _, by go_num, by omega, NewInv.step (by decide) (by decide) (by decide) rfl HINV.out HB2.out HGR.out HOWN.out HX.out⟩
      case rel => exact ⟨k + 1, _, by go_num, by omega, NewInv.step (by decide) (by decide) (by decide) rfl HINV.out HB2.out HGR.out HOWN.out HX.out⟩
      all_goals (simp only [intOf]; omega)
    · have hke : (k : Int) = slots := by omega
      have hx := Lib.hid hke
      clear hke
      have hbl := hbox.lt
      have HBOX := Lib.hid hbox
      have HBRD := Lib.hid hbrd
      have HDAT := Lib.hid hdat
      have HCEL := Lib.hid hcel
      have HBEL := Lib.hid hbel
      clear hbox hbrd hdat hcel hbel
      go_wp2_with fail
      go_ret
      exact NewInv.end_ HINV.out hx.out 0
end Go.Proofs.YtnkmlopjinihiaaDoor
