/- sakiaref11's slots. -/
import Derived.Test.YtmjpdojecdnkjaaGreatRefStr
import Derived.Test.YtmjpdojecdnkjaaGreatOwn
import Derived.Test.YtmjpdojecdnkjaaGreatConfP
import Derived.Laws.OwnMore
import Derived.RegionTactic
import Derived.BigRegion
import Derived.Deep.RegionLaw
namespace Go.Proofs.YtmjpdojecdnkjaaGreat
open Go.RowKit
set_option linter.unusedVariables false
set_option linter.unusedSimpArgs false
set_option maxHeartbeats 4000000

/-- a cell of the reference: its name, its kind, what it has at first -/
structure RC where
  name : List UInt8
  kind : Int
  first : Int
def RC.vs (c : RC) : List Value := [.string (strS c.name), .int .i64 c.kind, .int .u64 c.first]
def rcsVs (l : List RC) : List Value := l.flatMap RC.vs
theorem rcsVs_append (a b : List RC) : rcsVs (a ++ b) = rcsVs a ++ rcsVs b := by simp [rcsVs]
def rcSlots (nm : List UInt8) (kind : Int) (val : Int → Int) (n : Nat) : List RC := (List.range n).map fun i => ⟨nm ++ digL i, kind, val i⟩
theorem rcSlots_succ (nm : List UInt8) (kind : Int) (val : Int → Int) (n : Nat) : rcSlots nm kind val (n + 1) = rcSlots nm kind val n ++ [⟨nm ++ digL n, kind, val n⟩] := by simp [rcSlots, List.range_succ]
def RowEnd (tE : TypeId) (l : List RC) (w : World) (e : Ending) (w' : World) : Prop := ∃ v, e = .returned v ∧ w'.ownsRow w.heap.size tE 3 v l.length (rcsVs l) ∧ Below w.heap.size w w'
theorem own_below {w w' : World} {base e size n : Nat} {v : Value} {xs : List Value} (h : w.ownsRow base e size v n xs) (hb : Below w.heap.size w w') : w'.ownsRow base e size v n xs := ownsRow_keep h fun g hg => hb.block g (h.lt g hg).2
theorem name_add {P : Program} (nm : List UInt8) (hn : nm.length ≤ 10) (k : Nat) (hk : (k : Int) ≤ 18446744073709551615) (W : World) : (Op.stringOp .add (strS nm) (strS (digL k))).run P W = .ok (.string (strS (nm ++ digL k))) W := by
  have := digL_len20 k hk
  rw [run_string_add_sum (P := P) W (strS nm) (strS (digL k)) (by rw [strS_size, strS_size]; omega), strS_append]
theorem rc_info : (Tryz.prog.info? 101).map (fun i => (i.zero, i.size, i.bytes)) = some (some (.agg #[.string ⟨#[]⟩, .int .i64 0, .int .u64 0]), 3, 32) := by kernel_rfl
theorem news_rc (w : World) (x : RC) : ∀ j u, x.vs[j]? = some u → (w.alloc (.cells #[.string (strS x.name), .int .i64 x.kind, .int .u64 x.first] 101)).cell? ((⟨w.heap.size, 0, none⟩ : Addr).add j) = some u :=
  World.news_of_block (heap_alloc_new w (.cells #[.string (strS x.name), .int .i64 x.kind, .int .u64 x.first] 101))
theorem news_rc2 (w : World) (o : Obj) (x : RC) : ∀ j u, x.vs[j]? = some u → ((w.alloc o).alloc (.cells #[.string (strS x.name), .int .i64 x.kind, .int .u64 x.first] 101)).cell? ((⟨w.heap.size + 1, 0, none⟩ : Addr).add j) = some u := by
  have hs : (w.alloc o).heap.size = w.heap.size + 1 := by simp
  rw [← hs]
  exact news_rc _ x
theorem below_grown {base : Nat} {a w w' : World} {row : Option Nat} (h : Below base a w) (hg : w.grownBy w' row) (hr : ∀ g, row = some g → base ≤ g) (hb : base ≤ w.heap.size) : Below base a w' :=
  ⟨hg.os.trans h.os, hg.tape.trans h.tape, hg.output.trans h.output, Nat.le_trans h.size hg.size, fun b hlt => (hg.block b (by omega) (fun e => by have := hr b e.symm; omega)).trans (h.block b hlt)⟩
theorem rcSlots_len (nm : List UInt8) (kind : Int) (val : Int → Int) (n : Nat) : (rcSlots nm kind val n).length = n := by simp [rcSlots]
theorem rcs_row {w : World} {base n : Nat} {e : TypeId} {v : Value} {nm : List UInt8} {kind : Int} {val : Int → Int} {x : Int} (h : w.ownsRow base e 3 v (n + 1) (rcsVs (rcSlots nm kind val n) ++ RC.vs ⟨nm ++ digL n, kind, x⟩)) (hx : x = val n) : w.ownsRow base e 3 v (n + 1) (rcsVs (rcSlots nm kind val (n + 1))) := by
  subst hx
  rw [rcSlots_succ, rcsVs_append]
  simpa [rcsVs] using h
theorem one_rc (x : RC) : ∀ u ∈ x.vs, u.oneCell' = true := by intro u hu; simp only [RC.vs, List.mem_cons, List.not_mem_nil, or_false] at hu; rcases hu with rfl | rfl | rfl <;> rfl
def nmmark : List UInt8 := [109, 97, 114, 107]
theorem rslots_mark (c : Cf) (hw : c.width = 32 ∨ c.width = 64) (hc : Cap2 c.cap) (hst : 0 ≤ c.start ∧ c.start ≤ 18446744073709551615) (w : World) :
    Calls Tryz.prog 119 #[.agg c.vs.toArray, .string ⟨#[109, 97, 114, 107]⟩, .int .i64 1] w (RowEnd 101 (rcSlots nmmark 1 (fun i => aheadI (MW c.width) c.cap i (startI c)) c.cap.toNat) w) := by
  have hstart := fun W => rstartI c hw hst W
  have hcb := hc.bd
  have hM := MW2 hw
  have hsu : 0 ≤ startI c ∧ startI c ≤ 18446744073709551615 := inM_u hM (by unfold startI; rcases hM with h | h <;> rw [h]; exact cutM_in32 _; exact cutM_in64 _)
  have HAH := Lib.hid (fun i hi W => raheadI c.width c.cap i (startI c) hw hc hi hsu W)
  have HFI := Lib.hid (fun i hi W => rfirstI c.width c.cap i (startI c) hw hc hi hsu W)
  obtain ⟨i0, hinf⟩ := info_parts rc_info
  have HI := Lib.hid hinf
  clear hinf hM hsu
  show Calls _ _ _ _ (RowEnd _ (rcSlots nmmark 1 (fun i => aheadI (MW c.width) c.cap i (startI c)) c.cap.toNat) w)
  generalize hsi : startI c = si at *
  unfold startI at hsi
  obtain ⟨variant, width, cap, producers, start, ua, un, uc⟩ := c
  unfold Cf.vs at *
  dsimp only at *
  rw [hsi] at hstart
  have HS := Lib.hid hstart
  clear hstart hsi hw hc hst
  go_enter Tryz.func119, Tryz.ntmps119
  go_wp2_with (go_at_call 78; refine (HS.out _).mono ?_; rintro e w1 ⟨rfl, hb1⟩; have HCF := Lib.hid ((Blk.new w 25 _).below hb1 (by simp)); have HB1 := Lib.hid (below_new hb1); clear hb1)
  go_loopw [7, 9] (fun v i wr => ∃ k : Nat, i = .int .i64 k ∧ (k : Int) ≤ cap ∧ wr.ownsRow w.heap.size 101 3 v k (rcsVs (rcSlots nmmark 1 (fun i => aheadI (MW width) cap i si) k)) ∧ Below w.heap.size w wr ∧ Blk wr w.heap.size 25 #[.int .i64 variant, .int .i64 width, .int .i64 cap, .int .i64 producers, .int .u64 start, .slice ua un uc]) (fun _ i _ => cap.toNat - (intOf i).toNat)
  case atStart => exact ⟨0, rfl, by omega, World.ownsRow_nil _ _ _ _, HB1.out, HCF.out⟩
  case round =>
    obtain ⟨k, rfl, hk, hrow, hbe, hcf⟩ := hrel
    have q1 : wr.cell? ⟨w.heap.size, 1, none⟩ = some (.int .i64 width) := hcf.cell 1
    have q2 : wr.cell? ⟨w.heap.size, 2, none⟩ = some (.int .i64 cap) := hcf.cell 2
    have hwl := hcf.lt
    obtain ⟨A1, c1, rfl, hc1⟩ := own_form hrow
    have HROW := Lib.hid hrow
    have HBE := Lib.hid hbe
    have HCF2 := Lib.hid hcf
    clear hrow hbe hcf
    by_cases hlt : (k : Int) < cap
    · have hadd : ∀ W, (Op.stringOp .add ⟨#[109, 97, 114, 107]⟩ (strS (digL k))).run Tryz.prog W = .ok (.string (strS (nmmark ++ digL k))) W := fun W => name_add nmmark (by decide) k (by omega) W
      have HK := Lib.hid (show k + 1 ≤ maxLen ∧ (k + 1) * 32 ≤ 140737488355328 from ⟨by unfold maxLen; omega, by omega⟩)
      go_wp2_with (first
        | (go_at_call 118; refine (rnum k (by omega) _).mono ?_; rintro e w2 ⟨rfl, hb2⟩; obtain ⟨hc2, hf2⟩ := bcell hb2; have hz2 := hb2.size; have r1 := (hc2 _ 1 hwl).trans q1; have r2 := (hc2 _ 2 hwl).trans q2; have hwl2 := Nat.lt_of_lt_of_le hwl hz2; have HB2 := Lib.hid hb2; clear hb2 hc2 hf2)
        | (go_at_call 162; refine (HFI.out k (by omega) _).mono ?_; rintro e w' ⟨rfl, rfl⟩)
        | (go_at_call 163; refine (HAH.out k (by omega) _).mono ?_; rintro e w' ⟨rfl, rfl⟩)
        | (at_builtin
           refine wpList_append_lies _ rfl (.tmp 45) (.tmp 47) 49 rfl w.heap.size 101 i0 _ 3 32 Tryz.underlying49 HI.out.1 HI.out.2.1 HI.out.2.2.1 HI.out.2.2.2 rfl (by decide) (.slice A1 k c1) k _ (by rfl) (own_below HROW.out ((HB2.out.alloc hz2 _).alloc (by simp; omega) _)) ⟨w2.heap.size + 1, 0, none⟩ 1 1 (RC.vs ⟨nmmark ++ digL k, 1, aheadI (MW width) cap k si⟩) (by rfl) (by rfl) (news_rc2 _ _ _) (one_rc _) (by decide) HK.out.1 HK.out.2 (by simp; omega) _ (by rfl) ?_
           intro g cc w3 hown hgr hat hlt3
           have hrow3 := rcs_row (val := fun i => aheadI (MW width) cap i si) hown rfl
           have hW := ((HB2.out.alloc hz2 (.cells #[.string (strS (nmmark ++ digL k)), .int .i64 1, .int .u64 (aheadI (MW width) cap k si)] 101)).alloc (by simp; omega) (.cells #[.string (strS (nmmark ++ digL k)), .int .i64 1, .int .u64 (aheadI (MW width) cap k si)] 101))
           have hbl := below_grown (HBE.out.trans (hW.mono HBE.out.size)) hgr (fun g hg => (HROW.out.lt g hg).1) (by simp; omega)
           have hcf3 := (HCF2.out.below hW HCF2.out.lt).grown hgr (fun e => own_blk_ne HROW.out HCF2.out (by decide) e.symm)
           have HR3 := Lib.hid (And.intro hrow3 (And.intro hbl hcf3))
           clear hown hgr hat hlt3 hrow3 hW hbl hcf3))
      go_round
      case rel => exact ⟨k + 1, by go_num, by omega, HR3.out.1, HR3.out.2.1, HR3.out.2.2⟩
      case measure => simp only [intOf]; omega
    · obtain rfl : cap = (k : Int) := by omega
      go_wp2_with fail
      go_ret
      refine ⟨_, rfl, ?_, HBE.out⟩
      rw [rcSlots_len]
      exact HROW.out
def nmstamp : List UInt8 := [115, 116, 97, 109, 112]
theorem rslots_stamp (c : Cf) (hw : c.width = 32 ∨ c.width = 64) (hc : Cap2 c.cap) (hst : 0 ≤ c.start ∧ c.start ≤ 18446744073709551615) (w : World) :
    Calls Tryz.prog 119 #[.agg c.vs.toArray, .string ⟨#[115, 116, 97, 109, 112]⟩, .int .i64 1] w (RowEnd 101 (rcSlots nmstamp 1 (fun i => firstI (MW c.width) c.cap i (startI c)) c.cap.toNat) w) := by
  have hstart := fun W => rstartI c hw hst W
  have hcb := hc.bd
  have hM := MW2 hw
  have hsu : 0 ≤ startI c ∧ startI c ≤ 18446744073709551615 := inM_u hM (by unfold startI; rcases hM with h | h <;> rw [h]; exact cutM_in32 _; exact cutM_in64 _)
  have HAH := Lib.hid (fun i hi W => raheadI c.width c.cap i (startI c) hw hc hi hsu W)
  have HFI := Lib.hid (fun i hi W => rfirstI c.width c.cap i (startI c) hw hc hi hsu W)
  obtain ⟨i0, hinf⟩ := info_parts rc_info
  have HI := Lib.hid hinf
  clear hinf hM hsu
  show Calls _ _ _ _ (RowEnd _ (rcSlots nmstamp 1 (fun i => firstI (MW c.width) c.cap i (startI c)) c.cap.toNat) w)
  generalize hsi : startI c = si at *
  unfold startI at hsi
  obtain ⟨variant, width, cap, producers, start, ua, un, uc⟩ := c
  unfold Cf.vs at *
  dsimp only at *
  rw [hsi] at hstart
  have HS := Lib.hid hstart
  clear hstart hsi hw hc hst
  go_enter Tryz.func119, Tryz.ntmps119
  go_wp2_with (go_at_call 78; refine (HS.out _).mono ?_; rintro e w1 ⟨rfl, hb1⟩; have HCF := Lib.hid ((Blk.new w 25 _).below hb1 (by simp)); have HB1 := Lib.hid (below_new hb1); clear hb1)
  go_loopw [7, 9] (fun v i wr => ∃ k : Nat, i = .int .i64 k ∧ (k : Int) ≤ cap ∧ wr.ownsRow w.heap.size 101 3 v k (rcsVs (rcSlots nmstamp 1 (fun i => firstI (MW width) cap i si) k)) ∧ Below w.heap.size w wr ∧ Blk wr w.heap.size 25 #[.int .i64 variant, .int .i64 width, .int .i64 cap, .int .i64 producers, .int .u64 start, .slice ua un uc]) (fun _ i _ => cap.toNat - (intOf i).toNat)
  case atStart => exact ⟨0, rfl, by omega, World.ownsRow_nil _ _ _ _, HB1.out, HCF.out⟩
  case round =>
    obtain ⟨k, rfl, hk, hrow, hbe, hcf⟩ := hrel
    have q1 : wr.cell? ⟨w.heap.size, 1, none⟩ = some (.int .i64 width) := hcf.cell 1
    have q2 : wr.cell? ⟨w.heap.size, 2, none⟩ = some (.int .i64 cap) := hcf.cell 2
    have hwl := hcf.lt
    obtain ⟨A1, c1, rfl, hc1⟩ := own_form hrow
    have HROW := Lib.hid hrow
    have HBE := Lib.hid hbe
    have HCF2 := Lib.hid hcf
    clear hrow hbe hcf
    by_cases hlt : (k : Int) < cap
    · have hadd : ∀ W, (Op.stringOp .add ⟨#[115, 116, 97, 109, 112]⟩ (strS (digL k))).run Tryz.prog W = .ok (.string (strS (nmstamp ++ digL k))) W := fun W => name_add nmstamp (by decide) k (by omega) W
      have HK := Lib.hid (show k + 1 ≤ maxLen ∧ (k + 1) * 32 ≤ 140737488355328 from ⟨by unfold maxLen; omega, by omega⟩)
      go_wp2_with (first
        | (go_at_call 118; refine (rnum k (by omega) _).mono ?_; rintro e w2 ⟨rfl, hb2⟩; obtain ⟨hc2, hf2⟩ := bcell hb2; have hz2 := hb2.size; have r1 := (hc2 _ 1 hwl).trans q1; have r2 := (hc2 _ 2 hwl).trans q2; have hwl2 := Nat.lt_of_lt_of_le hwl hz2; have HB2 := Lib.hid hb2; clear hb2 hc2 hf2)
        | (go_at_call 162; refine (HFI.out k (by omega) _).mono ?_; rintro e w' ⟨rfl, rfl⟩)
        | (go_at_call 163; refine (HAH.out k (by omega) _).mono ?_; rintro e w' ⟨rfl, rfl⟩)
        | (at_builtin
           refine wpList_append_lies _ rfl (.tmp 45) (.tmp 47) 49 rfl w.heap.size 101 i0 _ 3 32 Tryz.underlying49 HI.out.1 HI.out.2.1 HI.out.2.2.1 HI.out.2.2.2 rfl (by decide) (.slice A1 k c1) k _ (by rfl) (own_below HROW.out ((HB2.out.alloc hz2 _).alloc (by simp; omega) _)) ⟨w2.heap.size + 1, 0, none⟩ 1 1 (RC.vs ⟨nmstamp ++ digL k, 1, firstI (MW width) cap k si⟩) (by rfl) (by rfl) (news_rc2 _ _ _) (one_rc _) (by decide) HK.out.1 HK.out.2 (by simp; omega) _ (by rfl) ?_
           intro g cc w3 hown hgr hat hlt3
           have hrow3 := rcs_row (val := fun i => firstI (MW width) cap i si) hown rfl
           have hW := ((HB2.out.alloc hz2 (.cells #[.string (strS (nmstamp ++ digL k)), .int .i64 1, .int .u64 (firstI (MW width) cap k si)] 101)).alloc (by simp; omega) (.cells #[.string (strS (nmstamp ++ digL k)), .int .i64 1, .int .u64 (firstI (MW width) cap k si)] 101))
           have hbl := below_grown (HBE.out.trans (hW.mono HBE.out.size)) hgr (fun g hg => (HROW.out.lt g hg).1) (by simp; omega)
           have hcf3 := (HCF2.out.below hW HCF2.out.lt).grown hgr (fun e => own_blk_ne HROW.out HCF2.out (by decide) e.symm)
           have HR3 := Lib.hid (And.intro hrow3 (And.intro hbl hcf3))
           clear hown hgr hat hlt3 hrow3 hW hbl hcf3))
      go_round
      case rel => exact ⟨k + 1, by go_num, by omega, HR3.out.1, HR3.out.2.1, HR3.out.2.2⟩
      case measure => simp only [intOf]; omega
    · obtain rfl : cap = (k : Int) := by omega
      go_wp2_with fail
      go_ret
      refine ⟨_, rfl, ?_, HBE.out⟩
      rw [rcSlots_len]
      exact HROW.out
def nmdone : List UInt8 := [100, 111, 110, 101]
theorem rslots_done (c : Cf) (hw : c.width = 32 ∨ c.width = 64) (hc : Cap2 c.cap) (hst : 0 ≤ c.start ∧ c.start ≤ 18446744073709551615) (w : World) :
    Calls Tryz.prog 119 #[.agg c.vs.toArray, .string ⟨#[100, 111, 110, 101]⟩, .int .i64 2] w (RowEnd 101 (rcSlots nmdone 2 (fun i => aheadI (MW c.width) c.cap i (startI c)) c.cap.toNat) w) := by
  have hstart := fun W => rstartI c hw hst W
  have hcb := hc.bd
  have hM := MW2 hw
  have hsu : 0 ≤ startI c ∧ startI c ≤ 18446744073709551615 := inM_u hM (by unfold startI; rcases hM with h | h <;> rw [h]; exact cutM_in32 _; exact cutM_in64 _)
  have HAH := Lib.hid (fun i hi W => raheadI c.width c.cap i (startI c) hw hc hi hsu W)
  have HFI := Lib.hid (fun i hi W => rfirstI c.width c.cap i (startI c) hw hc hi hsu W)
  obtain ⟨i0, hinf⟩ := info_parts rc_info
  have HI := Lib.hid hinf
  clear hinf hM hsu
  show Calls _ _ _ _ (RowEnd _ (rcSlots nmdone 2 (fun i => aheadI (MW c.width) c.cap i (startI c)) c.cap.toNat) w)
  generalize hsi : startI c = si at *
  unfold startI at hsi
  obtain ⟨variant, width, cap, producers, start, ua, un, uc⟩ := c
  unfold Cf.vs at *
  dsimp only at *
  rw [hsi] at hstart
  have HS := Lib.hid hstart
  clear hstart hsi hw hc hst
  go_enter Tryz.func119, Tryz.ntmps119
  go_wp2_with (go_at_call 78; refine (HS.out _).mono ?_; rintro e w1 ⟨rfl, hb1⟩; have HCF := Lib.hid ((Blk.new w 25 _).below hb1 (by simp)); have HB1 := Lib.hid (below_new hb1); clear hb1)
  go_loopw [7, 9] (fun v i wr => ∃ k : Nat, i = .int .i64 k ∧ (k : Int) ≤ cap ∧ wr.ownsRow w.heap.size 101 3 v k (rcsVs (rcSlots nmdone 2 (fun i => aheadI (MW width) cap i si) k)) ∧ Below w.heap.size w wr ∧ Blk wr w.heap.size 25 #[.int .i64 variant, .int .i64 width, .int .i64 cap, .int .i64 producers, .int .u64 start, .slice ua un uc]) (fun _ i _ => cap.toNat - (intOf i).toNat)
  case atStart => exact ⟨0, rfl, by omega, World.ownsRow_nil _ _ _ _, HB1.out, HCF.out⟩
  case round =>
    obtain ⟨k, rfl, hk, hrow, hbe, hcf⟩ := hrel
    have q1 : wr.cell? ⟨w.heap.size, 1, none⟩ = some (.int .i64 width) := hcf.cell 1
    have q2 : wr.cell? ⟨w.heap.size, 2, none⟩ = some (.int .i64 cap) := hcf.cell 2
    have hwl := hcf.lt
    obtain ⟨A1, c1, rfl, hc1⟩ := own_form hrow
    have HROW := Lib.hid hrow
    have HBE := Lib.hid hbe
    have HCF2 := Lib.hid hcf
    clear hrow hbe hcf
    by_cases hlt : (k : Int) < cap
    · have hadd : ∀ W, (Op.stringOp .add ⟨#[100, 111, 110, 101]⟩ (strS (digL k))).run Tryz.prog W = .ok (.string (strS (nmdone ++ digL k))) W := fun W => name_add nmdone (by decide) k (by omega) W
      have HK := Lib.hid (show k + 1 ≤ maxLen ∧ (k + 1) * 32 ≤ 140737488355328 from ⟨by unfold maxLen; omega, by omega⟩)
      go_wp2_with (first
        | (go_at_call 118; refine (rnum k (by omega) _).mono ?_; rintro e w2 ⟨rfl, hb2⟩; obtain ⟨hc2, hf2⟩ := bcell hb2; have hz2 := hb2.size; have r1 := (hc2 _ 1 hwl).trans q1; have r2 := (hc2 _ 2 hwl).trans q2; have hwl2 := Nat.lt_of_lt_of_le hwl hz2; have HB2 := Lib.hid hb2; clear hb2 hc2 hf2)
        | (go_at_call 162; refine (HFI.out k (by omega) _).mono ?_; rintro e w' ⟨rfl, rfl⟩)
        | (go_at_call 163; refine (HAH.out k (by omega) _).mono ?_; rintro e w' ⟨rfl, rfl⟩)
        | (at_builtin
           refine wpList_append_lies _ rfl (.tmp 45) (.tmp 47) 49 rfl w.heap.size 101 i0 _ 3 32 Tryz.underlying49 HI.out.1 HI.out.2.1 HI.out.2.2.1 HI.out.2.2.2 rfl (by decide) (.slice A1 k c1) k _ (by rfl) (own_below HROW.out ((HB2.out.alloc hz2 _).alloc (by simp; omega) _)) ⟨w2.heap.size + 1, 0, none⟩ 1 1 (RC.vs ⟨nmdone ++ digL k, 2, aheadI (MW width) cap k si⟩) (by rfl) (by rfl) (news_rc2 _ _ _) (one_rc _) (by decide) HK.out.1 HK.out.2 (by simp; omega) _ (by rfl) ?_
           intro g cc w3 hown hgr hat hlt3
           have hrow3 := rcs_row (val := fun i => aheadI (MW width) cap i si) hown rfl
           have hW := ((HB2.out.alloc hz2 (.cells #[.string (strS (nmdone ++ digL k)), .int .i64 2, .int .u64 (aheadI (MW width) cap k si)] 101)).alloc (by simp; omega) (.cells #[.string (strS (nmdone ++ digL k)), .int .i64 2, .int .u64 (aheadI (MW width) cap k si)] 101))
           have hbl := below_grown (HBE.out.trans (hW.mono HBE.out.size)) hgr (fun g hg => (HROW.out.lt g hg).1) (by simp; omega)
           have hcf3 := (HCF2.out.below hW HCF2.out.lt).grown hgr (fun e => own_blk_ne HROW.out HCF2.out (by decide) e.symm)
           have HR3 := Lib.hid (And.intro hrow3 (And.intro hbl hcf3))
           clear hown hgr hat hlt3 hrow3 hW hbl hcf3))
      go_round
      case rel => exact ⟨k + 1, by go_num, by omega, HR3.out.1, HR3.out.2.1, HR3.out.2.2⟩
      case measure => simp only [intOf]; omega
    · obtain rfl : cap = (k : Int) := by omega
      go_wp2_with fail
      go_ret
      refine ⟨_, rfl, ?_, HBE.out⟩
      rw [rcSlots_len]
      exact HROW.out
def nmslot : List UInt8 := [115, 108, 111, 116]
theorem rslots_slot (c : Cf) (hw : c.width = 32 ∨ c.width = 64) (hc : Cap2 c.cap) (hst : 0 ≤ c.start ∧ c.start ≤ 18446744073709551615) (w : World) :
    Calls Tryz.prog 119 #[.agg c.vs.toArray, .string ⟨#[115, 108, 111, 116]⟩, .int .i64 3] w (RowEnd 101 (rcSlots nmslot 3 (fun _ => 0) c.cap.toNat) w) := by
  have hstart := fun W => rstartI c hw hst W
  have hcb := hc.bd
  have hM := MW2 hw
  have hsu : 0 ≤ startI c ∧ startI c ≤ 18446744073709551615 := inM_u hM (by unfold startI; rcases hM with h | h <;> rw [h]; exact cutM_in32 _; exact cutM_in64 _)
  have HAH := Lib.hid (fun i hi W => raheadI c.width c.cap i (startI c) hw hc hi hsu W)
  have HFI := Lib.hid (fun i hi W => rfirstI c.width c.cap i (startI c) hw hc hi hsu W)
  obtain ⟨i0, hinf⟩ := info_parts rc_info
  have HI := Lib.hid hinf
  clear hinf hM hsu
  show Calls _ _ _ _ (RowEnd _ (rcSlots nmslot 3 (fun _ => 0) c.cap.toNat) w)
  generalize hsi : startI c = si at *
  unfold startI at hsi
  obtain ⟨variant, width, cap, producers, start, ua, un, uc⟩ := c
  unfold Cf.vs at *
  dsimp only at *
  rw [hsi] at hstart
  have HS := Lib.hid hstart
  clear hstart hsi hw hc hst
  go_enter Tryz.func119, Tryz.ntmps119
  go_wp2_with (go_at_call 78; refine (HS.out _).mono ?_; rintro e w1 ⟨rfl, hb1⟩; have HCF := Lib.hid ((Blk.new w 25 _).below hb1 (by simp)); have HB1 := Lib.hid (below_new hb1); clear hb1)
  go_loopw [7, 9] (fun v i wr => ∃ k : Nat, i = .int .i64 k ∧ (k : Int) ≤ cap ∧ wr.ownsRow w.heap.size 101 3 v k (rcsVs (rcSlots nmslot 3 (fun _ => 0) k)) ∧ Below w.heap.size w wr ∧ Blk wr w.heap.size 25 #[.int .i64 variant, .int .i64 width, .int .i64 cap, .int .i64 producers, .int .u64 start, .slice ua un uc]) (fun _ i _ => cap.toNat - (intOf i).toNat)
  case atStart => exact ⟨0, rfl, by omega, World.ownsRow_nil _ _ _ _, HB1.out, HCF.out⟩
  case round =>
    obtain ⟨k, rfl, hk, hrow, hbe, hcf⟩ := hrel
    have q1 : wr.cell? ⟨w.heap.size, 1, none⟩ = some (.int .i64 width) := hcf.cell 1
    have q2 : wr.cell? ⟨w.heap.size, 2, none⟩ = some (.int .i64 cap) := hcf.cell 2
    have hwl := hcf.lt
    obtain ⟨A1, c1, rfl, hc1⟩ := own_form hrow
    have HROW := Lib.hid hrow
    have HBE := Lib.hid hbe
    have HCF2 := Lib.hid hcf
    clear hrow hbe hcf
    by_cases hlt : (k : Int) < cap
    · have hadd : ∀ W, (Op.stringOp .add ⟨#[115, 108, 111, 116]⟩ (strS (digL k))).run Tryz.prog W = .ok (.string (strS (nmslot ++ digL k))) W := fun W => name_add nmslot (by decide) k (by omega) W
      have HK := Lib.hid (show k + 1 ≤ maxLen ∧ (k + 1) * 32 ≤ 140737488355328 from ⟨by unfold maxLen; omega, by omega⟩)
      go_wp2_with (first
        | (go_at_call 118; refine (rnum k (by omega) _).mono ?_; rintro e w2 ⟨rfl, hb2⟩; obtain ⟨hc2, hf2⟩ := bcell hb2; have hz2 := hb2.size; have r1 := (hc2 _ 1 hwl).trans q1; have r2 := (hc2 _ 2 hwl).trans q2; have hwl2 := Nat.lt_of_lt_of_le hwl hz2; have HB2 := Lib.hid hb2; clear hb2 hc2 hf2)
        | (go_at_call 162; refine (HFI.out k (by omega) _).mono ?_; rintro e w' ⟨rfl, rfl⟩)
        | (go_at_call 163; refine (HAH.out k (by omega) _).mono ?_; rintro e w' ⟨rfl, rfl⟩)
        | (at_builtin
           refine wpList_append_lies _ rfl (.tmp 45) (.tmp 47) 49 rfl w.heap.size 101 i0 _ 3 32 Tryz.underlying49 HI.out.1 HI.out.2.1 HI.out.2.2.1 HI.out.2.2.2 rfl (by decide) (.slice A1 k c1) k _ (by rfl) (own_below HROW.out ((HB2.out.alloc hz2 _).alloc (by simp; omega) _)) ⟨w2.heap.size + 1, 0, none⟩ 1 1 (RC.vs ⟨nmslot ++ digL k, 3, 0⟩) (by rfl) (by rfl) (news_rc2 _ _ _) (one_rc _) (by decide) HK.out.1 HK.out.2 (by simp; omega) _ (by rfl) ?_
           intro g cc w3 hown hgr hat hlt3
           have hrow3 := rcs_row (val := fun _ => 0) hown rfl
           have hW := ((HB2.out.alloc hz2 (.cells #[.string (strS (nmslot ++ digL k)), .int .i64 3, .int .u64 (0)] 101)).alloc (by simp; omega) (.cells #[.string (strS (nmslot ++ digL k)), .int .i64 3, .int .u64 (0)] 101))
           have hbl := below_grown (HBE.out.trans (hW.mono HBE.out.size)) hgr (fun g hg => (HROW.out.lt g hg).1) (by simp; omega)
           have hcf3 := (HCF2.out.below hW HCF2.out.lt).grown hgr (fun e => own_blk_ne HROW.out HCF2.out (by decide) e.symm)
           have HR3 := Lib.hid (And.intro hrow3 (And.intro hbl hcf3))
           clear hown hgr hat hlt3 hrow3 hW hbl hcf3))
      go_round
      case rel => exact ⟨k + 1, by go_num, by omega, HR3.out.1, HR3.out.2.1, HR3.out.2.2⟩
      case measure => simp only [intOf]; omega
    · obtain rfl : cap = (k : Int) := by omega
      go_wp2_with fail
      go_ret
      refine ⟨_, rfl, ?_, HBE.out⟩
      rw [rcSlots_len]
      exact HROW.out
end Go.Proofs.YtmjpdojecdnkjaaGreat
