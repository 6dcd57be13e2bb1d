/- sakiaref11.Of. -/
import Derived.Test.YtmjpdojecdnkjaaGreatRefSlots
namespace Go.Proofs.YtmjpdojecdnkjaaGreat
open Go.RowKit
set_option linter.unusedVariables false
set_option linter.unusedSimpArgs false
set_option maxHeartbeats 4000000

def nmgate : List UInt8 := [103, 97, 116, 101]
def rcGates (c : Cf) (n : Nat) : List RC := rcSlots nmgate 1 (fun _ => startI c) n
def rcSl (c : Cf) (nm : List UInt8) (kind : Int) : List RC := rcSlots nm kind (fun i => aheadI (MW c.width) c.cap i (startI c)) c.cap.toNat
def rcSt (c : Cf) : List RC := rcSlots nmstamp 1 (fun i => firstI (MW c.width) c.cap i (startI c)) c.cap.toNat
def rcMid (c : Cf) : List RC :=
  if c.variant = 1 then [⟨[99, 117, 114, 115, 111, 114], 1, startI c⟩]
  else if c.variant = 2 ∨ c.variant = 3 then ⟨[99, 108, 97, 105, 109], 1, startI c⟩ :: rcSl c nmmark 1
  else if c.variant = 4 then ⟨[99, 108, 97, 105, 109], 1, startI c⟩ :: rcSt c
  else ⟨[116, 105, 99, 107, 101, 116], 1, 0⟩ :: ⟨[115, 101, 114, 118, 105, 110, 103], 1, 0⟩ :: ⟨[110, 101, 120, 116], 2, startI c⟩ :: rcSl c nmdone 2
def rcOf (c : Cf) : List RC := rcGates c c.un ++ (rcMid c ++ rcSlots nmslot 3 (fun _ => 0) c.cap.toNat)
/-- a list of cells under way, and the configuration in its box -/
structure OfSt (tE tC : TypeId) (cs : Array Value) (w wk : World) (v : Value) (l : List RC) : Prop where
  row : wk.ownsRow w.heap.size tE 3 v l.length (rcsVs l)
  bel : Below w.heap.size w wk
  cf : Blk wk w.heap.size tC cs
section
variable {tE tC : TypeId} {cs : Array Value} {w wk w' : World} {v : Value} {l : List RC}
theorem OfSt.below (h : OfSt tE tC cs w wk v l) (hb : Below wk.heap.size wk w') : OfSt tE tC cs w w' v l :=
  ⟨own_below h.row hb, h.bel.trans (hb.mono h.bel.size), h.cf.below hb h.cf.lt⟩
theorem OfSt.add (h : OfSt tE tC cs w wk v l) (hne : tE ≠ tC) {nv : Value} {l2 : List RC} {W : World} (hW : Below wk.heap.size wk W) (hg : W.grownBy w' v.ownBlock) (hown : w'.ownsRow w.heap.size tE 3 nv (l.length + l2.length) (rcsVs l ++ rcsVs l2)) : OfSt tE tC cs w w' nv (l ++ l2) := by
  have h2 := h.below hW
  refine ⟨?_, below_grown h2.bel hg (fun g hg => (h.row.lt g hg).1) h2.bel.size, h2.cf.grown hg (fun e => own_blk_ne h.row h.cf hne e.symm)⟩
  rw [List.length_append, rcsVs_append]
  exact hown
end
theorem rcsVs_one (x : RC) : rcsVs [x] = x.vs := by simp [rcsVs]
theorem rcSlots_all (nm : List UInt8) (kind : Int) (val : Int → Int) (n : Nat) : ∀ u ∈ rcsVs (rcSlots nm kind val n), u.oneCell' = true := by
  intro u hu
  simp only [rcsVs, List.mem_flatMap] at hu
  obtain ⟨x, _, hx⟩ := hu
  exact one_rc x u hx
theorem ofst_reads {w : World} {base n : Nat} {e : TypeId} {v : Value} {l : List RC} {A : Option Addr} {c : Nat} (h : w.ownsRow base e 3 (.slice A n c) n (rcsVs l)) : Reads w w.heap.size 3 A n (rcsVs l) := Reads.of_own h
theorem rof11_1 (width cap producers start : Int) (ua : Option Addr) (un uc : Nat) (hw : width = 32 ∨ width = 64) (hc : Cap2 cap) (hst : 0 ≤ start ∧ start ≤ 18446744073709551615) (hun : un ≤ 6) (w : World) :
    Calls Tryz.prog 51 #[.agg #[.int .i64 1, .int .i64 width, .int .i64 cap, .int .i64 producers, .int .u64 start, .slice ua un uc]] w (RowEnd 101 (rcOf ⟨1, width, cap, producers, start, ua, un, uc⟩) w) := by
  have hstart := fun W => rstartI ⟨1, width, cap, producers, start, ua, un, uc⟩ hw hst W
  have hcb := hc.bd
  have HSLmark := Lib.hid (fun W => rslots_mark ⟨1, width, cap, producers, start, ua, un, uc⟩ hw hc hst W)
  have HSLstamp := Lib.hid (fun W => rslots_stamp ⟨1, width, cap, producers, start, ua, un, uc⟩ hw hc hst W)
  have HSLdone := Lib.hid (fun W => rslots_done ⟨1, width, cap, producers, start, ua, un, uc⟩ hw hc hst W)
  have HSLslot := Lib.hid (fun W => rslots_slot ⟨1, width, cap, producers, start, ua, un, uc⟩ hw hc hst W)
  unfold Cf.vs at HSLmark HSLstamp HSLdone HSLslot hstart
  obtain ⟨i0, hinf⟩ := info_parts rc_info
  have HI := Lib.hid hinf
  clear hinf
  generalize hsi : startI ⟨1, width, cap, producers, start, ua, un, uc⟩ = si at *
  have HSI := Lib.hid hsi
  unfold startI at hsi
  dsimp only at hsi hstart
  rw [hsi] at hstart
  have HS := Lib.hid hstart
  clear hstart hsi hw hc hst
  go_enter Tryz.func51, Tryz.ntmps51
  go_wp2_with (go_at_call 78; refine (HS.out _).mono ?_; rintro e w1 ⟨rfl, hb1⟩; have HCF := Lib.hid ((Blk.new w 25 _).below hb1 (by simp)); have HB1 := Lib.hid (below_new hb1); clear hb1)
  go_loopw [3, 5] (fun v i wr => ∃ k : Nat, i = .int .i64 k ∧ k ≤ un ∧ OfSt 101 25 #[.int .i64 1, .int .i64 width, .int .i64 cap, .int .i64 producers, .int .u64 start, .slice ua un uc] w wr v (rcSlots nmgate 1 (fun _ => si) k)) (fun _ i _ => un - (intOf i).toNat)
  case atStart => exact ⟨0, rfl, by omega, World.ownsRow_nil _ _ _ _, HB1.out, HCF.out⟩
  case round =>
    obtain ⟨k, rfl, hk, hos⟩ := hrel
    have hcf := hos.cf
    have q0 : wr.cell? ⟨w.heap.size, 0, none⟩ = some (.int .i64 1) := hcf.cell 0
    have q1 : wr.cell? ⟨w.heap.size, 1, none⟩ = some (.int .i64 width) := hcf.cell 1
    have q2 : wr.cell? ⟨w.heap.size, 2, none⟩ = some (.int .i64 cap) := hcf.cell 2
    have q3 : wr.cell? ⟨w.heap.size, 3, none⟩ = some (.int .i64 producers) := hcf.cell 3
    have q4 : wr.cell? ⟨w.heap.size, 4, none⟩ = some (.int .u64 start) := hcf.cell 4
    have q5 : wr.cell? ⟨w.heap.size, 5, none⟩ = some (.slice ua un uc) := hcf.cell 5
    have hwl := hcf.lt
    obtain ⟨A1, c1, rfl, hc1⟩ := own_form hos.row
    have HOS := Lib.hid hos
    have HLN := Lib.hid (rcSlots_len nmgate 1 (fun _ => si) k)
    clear hos hcf
    by_cases hlt : (k : Int) < un
    · have hadd : ∀ W, (Op.stringOp .add ⟨#[103, 97, 116, 101]⟩ (strS (digL k))).run Tryz.prog W = .ok (.string (strS (nmgate ++ digL k))) W := fun W => name_add nmgate (by decide) k (by omega) W
      go_wp2_with (first
        | (go_at_call 118; refine (rnum k (by omega) _).mono ?_; rintro e w2 ⟨rfl, hb2⟩; have hz2 := hb2.size; have HB2 := Lib.hid hb2; clear hb2)
        | (at_builtin
           refine wpList_append_lies _ rfl (.tmp 15) (.tmp 21) 49 rfl w.heap.size 101 i0 _ 3 32 Tryz.underlying49 HI.out.1 HI.out.2.1 HI.out.2.2.1 HI.out.2.2.2 rfl (by decide) (.slice A1 _ c1) _ _ (by rfl) ((HOS.out.below (HB2.out.alloc hz2 _)).row) ⟨w2.heap.size, 0, none⟩ 1 1 (RC.vs ⟨nmgate ++ digL k, 1, si⟩) (by rfl) (by rfl) (news_rc _ _) (one_rc _) (by decide) (by rw [HLN.out]; unfold maxLen; omega) (by rw [HLN.out]; omega) (by have := HOS.out.bel.size; simp; omega) _ (by rfl) ?_
           intro g cc w3 hown hgr hat hlt3
           have h3 := HOS.out.add (l2 := [⟨nmgate ++ digL k, 1, si⟩]) (by decide) (HB2.out.alloc hz2 (.cells #[.string (strS (nmgate ++ digL k)), .int .i64 1, .int .u64 si] 101)) hgr (by rw [rcsVs_one]; exact hown)
           rw [← rcSlots_succ] at h3
           have HO3 := Lib.hid h3
           clear hown hgr hat hlt3 h3))
      go_round
      case rel => exact ⟨k + 1, by go_num, by omega, HO3.out⟩
      case measure => simp only [intOf]; omega
    · obtain rfl : un = k := by omega
      go_wp2_with (first
      | (at_builtin
         refine wpList_append_lies _ rfl (.tmp 26) (.tmp 29) 49 rfl w.heap.size 101 i0 _ 3 32 Tryz.underlying49 HI.out.1 HI.out.2.1 HI.out.2.2.1 HI.out.2.2.2 rfl (by decide) (.slice A1 _ c1) _ _ (by rfl) ((HOS.out.below ((Below.refl _ _).alloc (Nat.le_refl _) _)).row) ⟨wr.heap.size, 0, none⟩ 1 1 (rcsVs [⟨[99, 117, 114, 115, 111, 114], 1, si⟩]) (by rfl) (by rfl) (World.news_of_block (heap_alloc_new wr (.cells #[.string ⟨#[99, 117, 114, 115, 111, 114]⟩, .int .i64 1, .int .u64 si] 101))) (by intro u hu; simp only [rcsVs, List.mem_flatMap] at hu; obtain ⟨x, _, hx⟩ := hu; exact one_rc x u hx) (by decide) (by rw [HLN.out]; unfold maxLen; omega) (by rw [HLN.out]; omega) (by have := HOS.out.bel.size; simp; omega) _ (by rfl) ?_
         intro g cc w3 hown hgr hat hlt3
         have HO3 := Lib.hid (HOS.out.add (l2 := [⟨[99, 117, 114, 115, 111, 114], 1, si⟩]) (by decide) ((Below.refl wr.heap.size wr).alloc (Nat.le_refl _) (.cells #[.string ⟨#[99, 117, 114, 115, 111, 114]⟩, .int .i64 1, .int .u64 si] 101)) hgr hown)
         have hcf3 := HO3.out.cf
         have s0 : w3.cell? ⟨w.heap.size, 0, none⟩ = some (.int .i64 1) := hcf3.cell 0
         have s1 : w3.cell? ⟨w.heap.size, 1, none⟩ = some (.int .i64 width) := hcf3.cell 1
         have s2 : w3.cell? ⟨w.heap.size, 2, none⟩ = some (.int .i64 cap) := hcf3.cell 2
         have s3 : w3.cell? ⟨w.heap.size, 3, none⟩ = some (.int .i64 producers) := hcf3.cell 3
         have s4 : w3.cell? ⟨w.heap.size, 4, none⟩ = some (.int .u64 start) := hcf3.cell 4
         have s5 : w3.cell? ⟨w.heap.size, 5, none⟩ = some (.slice ua un uc) := hcf3.cell 5
         clear hown hgr hat hlt3 hcf3)
      | fail
      | (go_at_call_of 119 (Value.string ⟨#[115, 108, 111, 116]⟩)
         have hq := HSLslot.out w3
         refine hq.mono ?_
         clear hq
         rintro e w5a ⟨v2, rfl, hrow2, hb2⟩
         obtain ⟨A2, c2, rfl, _⟩ := own_form hrow2
         have HR2 := Lib.hid hrow2
         have HB2 := Lib.hid hb2
         clear hrow2 hb2)
      | (at_builtin
         refine wpList_append_any _ rfl (.tmp 74) (.tmp 76) 49 (by rfl) w.heap.size 101 i0 _ 3 32 Tryz.underlying49 HI.out.1 HI.out.2.1 HI.out.2.2.1 HI.out.2.2.2 rfl (by decide) _ _ _ (by rfl) ((HO3.out.below HB2.out).row) _ A2 _ c2 _ (by rfl) (Reads.of_own HR2.out) (by intro u hu; simp only [rcsVs, List.mem_flatMap] at hu; obtain ⟨x, _, hx⟩ := hu; exact one_rc x u hx) (by simp only [List.length_append, List.length_cons, List.length_nil, rcSlots_len]; unfold maxLen; omega) (by simp only [List.length_append, List.length_cons, List.length_nil, rcSlots_len]; omega) (by have := HO3.out.bel.size; have := HB2.out.size; omega) ?_
         intro v4 w5 hown hgr hat
         have HO5 := Lib.hid (HO3.out.add (l2 := rcSlots nmslot 3 (fun _ => 0) cap.toNat) (by decide) HB2.out hgr hown)
         have hcf4 := HO5.out.cf
         have t0 : w5.cell? ⟨w.heap.size, 0, none⟩ = some (.int .i64 1) := hcf4.cell 0
         have t1 : w5.cell? ⟨w.heap.size, 1, none⟩ = some (.int .i64 width) := hcf4.cell 1
         have t2 : w5.cell? ⟨w.heap.size, 2, none⟩ = some (.int .i64 cap) := hcf4.cell 2
         have t3 : w5.cell? ⟨w.heap.size, 3, none⟩ = some (.int .i64 producers) := hcf4.cell 3
         have t4 : w5.cell? ⟨w.heap.size, 4, none⟩ = some (.int .u64 start) := hcf4.cell 4
         have t5 : w5.cell? ⟨w.heap.size, 5, none⟩ = some (.slice ua un uc) := hcf4.cell 5
         clear hown hgr hat hcf4))
      go_ret
      have hl : rcOf ⟨1, width, cap, producers, start, ua, un, uc⟩ = _ := (show rcOf _ = (rcSlots nmgate 1 (fun _ => si) un ++ [⟨[99, 117, 114, 115, 111, 114], 1, si⟩]) ++ rcSlots nmslot 3 (fun _ => 0) cap.toNat by simp [rcOf, rcGates, rcMid, rcSl, rcSt, HSI.out])
      refine ⟨_, rfl, ?_, HO5.out.bel⟩
      rw [hl]
      exact HO5.out.row
theorem rof11_2 (width cap producers start : Int) (ua : Option Addr) (un uc : Nat) (hw : width = 32 ∨ width = 64) (hc : Cap2 cap) (hst : 0 ≤ start ∧ start ≤ 18446744073709551615) (hun : un ≤ 6) (w : World) :
    Calls Tryz.prog 51 #[.agg #[.int .i64 2, .int .i64 width, .int .i64 cap, .int .i64 producers, .int .u64 start, .slice ua un uc]] w (RowEnd 101 (rcOf ⟨2, width, cap, producers, start, ua, un, uc⟩) w) := by
  have hstart := fun W => rstartI ⟨2, width, cap, producers, start, ua, un, uc⟩ hw hst W
  have hcb := hc.bd
  have HSLmark := Lib.hid (fun W => rslots_mark ⟨2, width, cap, producers, start, ua, un, uc⟩ hw hc hst W)
  have HSLstamp := Lib.hid (fun W => rslots_stamp ⟨2, width, cap, producers, start, ua, un, uc⟩ hw hc hst W)
  have HSLdone := Lib.hid (fun W => rslots_done ⟨2, width, cap, producers, start, ua, un, uc⟩ hw hc hst W)
  have HSLslot := Lib.hid (fun W => rslots_slot ⟨2, width, cap, producers, start, ua, un, uc⟩ hw hc hst W)
  unfold Cf.vs at HSLmark HSLstamp HSLdone HSLslot hstart
  obtain ⟨i0, hinf⟩ := info_parts rc_info
  have HI := Lib.hid hinf
  clear hinf
  generalize hsi : startI ⟨2, width, cap, producers, start, ua, un, uc⟩ = si at *
  have HSI := Lib.hid hsi
  unfold startI at hsi
  dsimp only at hsi hstart
  rw [hsi] at hstart
  have HS := Lib.hid hstart
  clear hstart hsi hw hc hst
  go_enter Tryz.func51, Tryz.ntmps51
  go_wp2_with (go_at_call 78; refine (HS.out _).mono ?_; rintro e w1 ⟨rfl, hb1⟩; have HCF := Lib.hid ((Blk.new w 25 _).below hb1 (by simp)); have HB1 := Lib.hid (below_new hb1); clear hb1)
  go_loopw [3, 5] (fun v i wr => ∃ k : Nat, i = .int .i64 k ∧ k ≤ un ∧ OfSt 101 25 #[.int .i64 2, .int .i64 width, .int .i64 cap, .int .i64 producers, .int .u64 start, .slice ua un uc] w wr v (rcSlots nmgate 1 (fun _ => si) k)) (fun _ i _ => un - (intOf i).toNat)
  case atStart => exact ⟨0, rfl, by omega, World.ownsRow_nil _ _ _ _, HB1.out, HCF.out⟩
  case round =>
    obtain ⟨k, rfl, hk, hos⟩ := hrel
    have hcf := hos.cf
    have q0 : wr.cell? ⟨w.heap.size, 0, none⟩ = some (.int .i64 2) := hcf.cell 0
    have q1 : wr.cell? ⟨w.heap.size, 1, none⟩ = some (.int .i64 width) := hcf.cell 1
    have q2 : wr.cell? ⟨w.heap.size, 2, none⟩ = some (.int .i64 cap) := hcf.cell 2
    have q3 : wr.cell? ⟨w.heap.size, 3, none⟩ = some (.int .i64 producers) := hcf.cell 3
    have q4 : wr.cell? ⟨w.heap.size, 4, none⟩ = some (.int .u64 start) := hcf.cell 4
    have q5 : wr.cell? ⟨w.heap.size, 5, none⟩ = some (.slice ua un uc) := hcf.cell 5
    have hwl := hcf.lt
    obtain ⟨A1, c1, rfl, hc1⟩ := own_form hos.row
    have HOS := Lib.hid hos
    have HLN := Lib.hid (rcSlots_len nmgate 1 (fun _ => si) k)
    clear hos hcf
    by_cases hlt : (k : Int) < un
    · have hadd : ∀ W, (Op.stringOp .add ⟨#[103, 97, 116, 101]⟩ (strS (digL k))).run Tryz.prog W = .ok (.string (strS (nmgate ++ digL k))) W := fun W => name_add nmgate (by decide) k (by omega) W
      go_wp2_with (first
        | (go_at_call 118; refine (rnum k (by omega) _).mono ?_; rintro e w2 ⟨rfl, hb2⟩; have hz2 := hb2.size; have HB2 := Lib.hid hb2; clear hb2)
        | (at_builtin
           refine wpList_append_lies _ rfl (.tmp 15) (.tmp 21) 49 rfl w.heap.size 101 i0 _ 3 32 Tryz.underlying49 HI.out.1 HI.out.2.1 HI.out.2.2.1 HI.out.2.2.2 rfl (by decide) (.slice A1 _ c1) _ _ (by rfl) ((HOS.out.below (HB2.out.alloc hz2 _)).row) ⟨w2.heap.size, 0, none⟩ 1 1 (RC.vs ⟨nmgate ++ digL k, 1, si⟩) (by rfl) (by rfl) (news_rc _ _) (one_rc _) (by decide) (by rw [HLN.out]; unfold maxLen; omega) (by rw [HLN.out]; omega) (by have := HOS.out.bel.size; simp; omega) _ (by rfl) ?_
           intro g cc w3 hown hgr hat hlt3
           have h3 := HOS.out.add (l2 := [⟨nmgate ++ digL k, 1, si⟩]) (by decide) (HB2.out.alloc hz2 (.cells #[.string (strS (nmgate ++ digL k)), .int .i64 1, .int .u64 si] 101)) hgr (by rw [rcsVs_one]; exact hown)
           rw [← rcSlots_succ] at h3
           have HO3 := Lib.hid h3
           clear hown hgr hat hlt3 h3))
      go_round
      case rel => exact ⟨k + 1, by go_num, by omega, HO3.out⟩
      case measure => simp only [intOf]; omega
    · obtain rfl : un = k := by omega
      go_wp2_with (first
      | (at_builtin
         refine wpList_append_lies _ rfl (.tmp 39) (.tmp 42) 49 rfl w.heap.size 101 i0 _ 3 32 Tryz.underlying49 HI.out.1 HI.out.2.1 HI.out.2.2.1 HI.out.2.2.2 rfl (by decide) (.slice A1 _ c1) _ _ (by rfl) ((HOS.out.below ((Below.refl _ _).alloc (Nat.le_refl _) _)).row) ⟨wr.heap.size, 0, none⟩ 1 1 (rcsVs [⟨[99, 108, 97, 105, 109], 1, si⟩]) (by rfl) (by rfl) (World.news_of_block (heap_alloc_new wr (.cells #[.string ⟨#[99, 108, 97, 105, 109]⟩, .int .i64 1, .int .u64 si] 101))) (by intro u hu; simp only [rcsVs, List.mem_flatMap] at hu; obtain ⟨x, _, hx⟩ := hu; exact one_rc x u hx) (by decide) (by rw [HLN.out]; unfold maxLen; omega) (by rw [HLN.out]; omega) (by have := HOS.out.bel.size; simp; omega) _ (by rfl) ?_
         intro g cc w3 hown hgr hat hlt3
         have HO3 := Lib.hid (HOS.out.add (l2 := [⟨[99, 108, 97, 105, 109], 1, si⟩]) (by decide) ((Below.refl wr.heap.size wr).alloc (Nat.le_refl _) (.cells #[.string ⟨#[99, 108, 97, 105, 109]⟩, .int .i64 1, .int .u64 si] 101)) hgr hown)
         have hcf3 := HO3.out.cf
         have s0 : w3.cell? ⟨w.heap.size, 0, none⟩ = some (.int .i64 2) := hcf3.cell 0
         have s1 : w3.cell? ⟨w.heap.size, 1, none⟩ = some (.int .i64 width) := hcf3.cell 1
         have s2 : w3.cell? ⟨w.heap.size, 2, none⟩ = some (.int .i64 cap) := hcf3.cell 2
         have s3 : w3.cell? ⟨w.heap.size, 3, none⟩ = some (.int .i64 producers) := hcf3.cell 3
         have s4 : w3.cell? ⟨w.heap.size, 4, none⟩ = some (.int .u64 start) := hcf3.cell 4
         have s5 : w3.cell? ⟨w.heap.size, 5, none⟩ = some (.slice ua un uc) := hcf3.cell 5
         clear hown hgr hat hlt3 hcf3)
      | (go_at_call_of 119 (Value.string ⟨#[109, 97, 114, 107]⟩)
         have hq := HSLmark.out w3
         refine hq.mono ?_
         clear hq
         rintro e w4a ⟨v2, rfl, hrow2, hb2⟩
         obtain ⟨A2, c2, rfl, _⟩ := own_form hrow2
         have HR2 := Lib.hid hrow2
         have HB2 := Lib.hid hb2
         clear hrow2 hb2)
      | (at_builtin
         refine wpList_append_any _ rfl (.tmp 44) (.tmp 46) 49 (by rfl) w.heap.size 101 i0 _ 3 32 Tryz.underlying49 HI.out.1 HI.out.2.1 HI.out.2.2.1 HI.out.2.2.2 rfl (by decide) _ _ _ (by rfl) ((HO3.out.below HB2.out).row) _ A2 _ c2 _ (by rfl) (Reads.of_own HR2.out) (by intro u hu; simp only [rcsVs, List.mem_flatMap] at hu; obtain ⟨x, _, hx⟩ := hu; exact one_rc x u hx) (by simp only [List.length_append, List.length_cons, List.length_nil, rcSlots_len]; unfold maxLen; omega) (by simp only [List.length_append, List.length_cons, List.length_nil, rcSlots_len]; omega) (by have := HO3.out.bel.size; have := HB2.out.size; omega) ?_
         intro v4 w4 hown hgr hat
         have HO4 := Lib.hid (HO3.out.add (l2 := rcSlots nmmark 1 (fun i => aheadI (MW width) cap i si) cap.toNat) (by decide) HB2.out hgr hown)
         have hcf4 := HO4.out.cf
         have t0 : w4.cell? ⟨w.heap.size, 0, none⟩ = some (.int .i64 2) := hcf4.cell 0
         have t1 : w4.cell? ⟨w.heap.size, 1, none⟩ = some (.int .i64 width) := hcf4.cell 1
         have t2 : w4.cell? ⟨w.heap.size, 2, none⟩ = some (.int .i64 cap) := hcf4.cell 2
         have t3 : w4.cell? ⟨w.heap.size, 3, none⟩ = some (.int .i64 producers) := hcf4.cell 3
         have t4 : w4.cell? ⟨w.heap.size, 4, none⟩ = some (.int .u64 start) := hcf4.cell 4
         have t5 : w4.cell? ⟨w.heap.size, 5, none⟩ = some (.slice ua un uc) := hcf4.cell 5
         clear hown hgr hat hcf4)
      | (go_at_call_of 119 (Value.string ⟨#[115, 108, 111, 116]⟩)
         have hq := HSLslot.out w4
         refine hq.mono ?_
         clear hq
         rintro e w5a ⟨v2, rfl, hrow2, hb2⟩
         obtain ⟨A2, c2, rfl, _⟩ := own_form hrow2
         have HR2 := Lib.hid hrow2
         have HB2 := Lib.hid hb2
         clear hrow2 hb2)
      | (at_builtin
         refine wpList_append_any _ rfl (.tmp 74) (.tmp 76) 49 (by rfl) w.heap.size 101 i0 _ 3 32 Tryz.underlying49 HI.out.1 HI.out.2.1 HI.out.2.2.1 HI.out.2.2.2 rfl (by decide) _ _ _ (by rfl) ((HO4.out.below HB2.out).row) _ A2 _ c2 _ (by rfl) (Reads.of_own HR2.out) (by intro u hu; simp only [rcsVs, List.mem_flatMap] at hu; obtain ⟨x, _, hx⟩ := hu; exact one_rc x u hx) (by simp only [List.length_append, List.length_cons, List.length_nil, rcSlots_len]; unfold maxLen; omega) (by simp only [List.length_append, List.length_cons, List.length_nil, rcSlots_len]; omega) (by have := HO4.out.bel.size; have := HB2.out.size; omega) ?_
         intro v4 w5 hown hgr hat
         have HO5 := Lib.hid (HO4.out.add (l2 := rcSlots nmslot 3 (fun _ => 0) cap.toNat) (by decide) HB2.out hgr hown)
         have hcf4 := HO5.out.cf
         have t0 : w5.cell? ⟨w.heap.size, 0, none⟩ = some (.int .i64 2) := hcf4.cell 0
         have t1 : w5.cell? ⟨w.heap.size, 1, none⟩ = some (.int .i64 width) := hcf4.cell 1
         have t2 : w5.cell? ⟨w.heap.size, 2, none⟩ = some (.int .i64 cap) := hcf4.cell 2
         have t3 : w5.cell? ⟨w.heap.size, 3, none⟩ = some (.int .i64 producers) := hcf4.cell 3
         have t4 : w5.cell? ⟨w.heap.size, 4, none⟩ = some (.int .u64 start) := hcf4.cell 4
         have t5 : w5.cell? ⟨w.heap.size, 5, none⟩ = some (.slice ua un uc) := hcf4.cell 5
         clear hown hgr hat hcf4))
      go_ret
      have hl : rcOf ⟨2, width, cap, producers, start, ua, un, uc⟩ = _ := (show rcOf _ = ((rcSlots nmgate 1 (fun _ => si) un ++ [⟨[99, 108, 97, 105, 109], 1, si⟩]) ++ rcSlots nmmark 1 (fun i => aheadI (MW width) cap i si) cap.toNat) ++ rcSlots nmslot 3 (fun _ => 0) cap.toNat by simp [rcOf, rcGates, rcMid, rcSl, rcSt, HSI.out])
      refine ⟨_, rfl, ?_, HO5.out.bel⟩
      rw [hl]
      exact HO5.out.row
theorem rof11_3 (width cap producers start : Int) (ua : Option Addr) (un uc : Nat) (hw : width = 32 ∨ width = 64) (hc : Cap2 cap) (hst : 0 ≤ start ∧ start ≤ 18446744073709551615) (hun : un ≤ 6) (w : World) :
    Calls Tryz.prog 51 #[.agg #[.int .i64 3, .int .i64 width, .int .i64 cap, .int .i64 producers, .int .u64 start, .slice ua un uc]] w (RowEnd 101 (rcOf ⟨3, width, cap, producers, start, ua, un, uc⟩) w) := by
  have hstart := fun W => rstartI ⟨3, width, cap, producers, start, ua, un, uc⟩ hw hst W
  have hcb := hc.bd
  have HSLmark := Lib.hid (fun W => rslots_mark ⟨3, width, cap, producers, start, ua, un, uc⟩ hw hc hst W)
  have HSLstamp := Lib.hid (fun W => rslots_stamp ⟨3, width, cap, producers, start, ua, un, uc⟩ hw hc hst W)
  have HSLdone := Lib.hid (fun W => rslots_done ⟨3, width, cap, producers, start, ua, un, uc⟩ hw hc hst W)
  have HSLslot := Lib.hid (fun W => rslots_slot ⟨3, width, cap, producers, start, ua, un, uc⟩ hw hc hst W)
  unfold Cf.vs at HSLmark HSLstamp HSLdone HSLslot hstart
  obtain ⟨i0, hinf⟩ := info_parts rc_info
  have HI := Lib.hid hinf
  clear hinf
  generalize hsi : startI ⟨3, width, cap, producers, start, ua, un, uc⟩ = si at *
  have HSI := Lib.hid hsi
  unfold startI at hsi
  dsimp only at hsi hstart
  rw [hsi] at hstart
  have HS := Lib.hid hstart
  clear hstart hsi hw hc hst
  go_enter Tryz.func51, Tryz.ntmps51
  go_wp2_with (go_at_call 78; refine (HS.out _).mono ?_; rintro e w1 ⟨rfl, hb1⟩; have HCF := Lib.hid ((Blk.new w 25 _).below hb1 (by simp)); have HB1 := Lib.hid (below_new hb1); clear hb1)
  go_loopw [3, 5] (fun v i wr => ∃ k : Nat, i = .int .i64 k ∧ k ≤ un ∧ OfSt 101 25 #[.int .i64 3, .int .i64 width, .int .i64 cap, .int .i64 producers, .int .u64 start, .slice ua un uc] w wr v (rcSlots nmgate 1 (fun _ => si) k)) (fun _ i _ => un - (intOf i).toNat)
  case atStart => exact ⟨0, rfl, by omega, World.ownsRow_nil _ _ _ _, HB1.out, HCF.out⟩
  case round =>
    obtain ⟨k, rfl, hk, hos⟩ := hrel
    have hcf := hos.cf
    have q0 : wr.cell? ⟨w.heap.size, 0, none⟩ = some (.int .i64 3) := hcf.cell 0
    have q1 : wr.cell? ⟨w.heap.size, 1, none⟩ = some (.int .i64 width) := hcf.cell 1
    have q2 : wr.cell? ⟨w.heap.size, 2, none⟩ = some (.int .i64 cap) := hcf.cell 2
    have q3 : wr.cell? ⟨w.heap.size, 3, none⟩ = some (.int .i64 producers) := hcf.cell 3
    have q4 : wr.cell? ⟨w.heap.size, 4, none⟩ = some (.int .u64 start) := hcf.cell 4
    have q5 : wr.cell? ⟨w.heap.size, 5, none⟩ = some (.slice ua un uc) := hcf.cell 5
    have hwl := hcf.lt
    obtain ⟨A1, c1, rfl, hc1⟩ := own_form hos.row
    have HOS := Lib.hid hos
    have HLN := Lib.hid (rcSlots_len nmgate 1 (fun _ => si) k)
    clear hos hcf
    by_cases hlt : (k : Int) < un
    · have hadd : ∀ W, (Op.stringOp .add ⟨#[103, 97, 116, 101]⟩ (strS (digL k))).run Tryz.prog W = .ok (.string (strS (nmgate ++ digL k))) W := fun W => name_add nmgate (by decide) k (by omega) W
      go_wp2_with (first
        | (go_at_call 118; refine (rnum k (by omega) _).mono ?_; rintro e w2 ⟨rfl, hb2⟩; have hz2 := hb2.size; have HB2 := Lib.hid hb2; clear hb2)
        | (at_builtin
           refine wpList_append_lies _ rfl (.tmp 15) (.tmp 21) 49 rfl w.heap.size 101 i0 _ 3 32 Tryz.underlying49 HI.out.1 HI.out.2.1 HI.out.2.2.1 HI.out.2.2.2 rfl (by decide) (.slice A1 _ c1) _ _ (by rfl) ((HOS.out.below (HB2.out.alloc hz2 _)).row) ⟨w2.heap.size, 0, none⟩ 1 1 (RC.vs ⟨nmgate ++ digL k, 1, si⟩) (by rfl) (by rfl) (news_rc _ _) (one_rc _) (by decide) (by rw [HLN.out]; unfold maxLen; omega) (by rw [HLN.out]; omega) (by have := HOS.out.bel.size; simp; omega) _ (by rfl) ?_
           intro g cc w3 hown hgr hat hlt3
           have h3 := HOS.out.add (l2 := [⟨nmgate ++ digL k, 1, si⟩]) (by decide) (HB2.out.alloc hz2 (.cells #[.string (strS (nmgate ++ digL k)), .int .i64 1, .int .u64 si] 101)) hgr (by rw [rcsVs_one]; exact hown)
           rw [← rcSlots_succ] at h3
           have HO3 := Lib.hid h3
           clear hown hgr hat hlt3 h3))
      go_round
      case rel => exact ⟨k + 1, by go_num, by omega, HO3.out⟩
      case measure => simp only [intOf]; omega
    · obtain rfl : un = k := by omega
      go_wp2_with (first
      | (at_builtin
         refine wpList_append_lies _ rfl (.tmp 39) (.tmp 42) 49 rfl w.heap.size 101 i0 _ 3 32 Tryz.underlying49 HI.out.1 HI.out.2.1 HI.out.2.2.1 HI.out.2.2.2 rfl (by decide) (.slice A1 _ c1) _ _ (by rfl) ((HOS.out.below ((Below.refl _ _).alloc (Nat.le_refl _) _)).row) ⟨wr.heap.size, 0, none⟩ 1 1 (rcsVs [⟨[99, 108, 97, 105, 109], 1, si⟩]) (by rfl) (by rfl) (World.news_of_block (heap_alloc_new wr (.cells #[.string ⟨#[99, 108, 97, 105, 109]⟩, .int .i64 1, .int .u64 si] 101))) (by intro u hu; simp only [rcsVs, List.mem_flatMap] at hu; obtain ⟨x, _, hx⟩ := hu; exact one_rc x u hx) (by decide) (by rw [HLN.out]; unfold maxLen; omega) (by rw [HLN.out]; omega) (by have := HOS.out.bel.size; simp; omega) _ (by rfl) ?_
         intro g cc w3 hown hgr hat hlt3
         have HO3 := Lib.hid (HOS.out.add (l2 := [⟨[99, 108, 97, 105, 109], 1, si⟩]) (by decide) ((Below.refl wr.heap.size wr).alloc (Nat.le_refl _) (.cells #[.string ⟨#[99, 108, 97, 105, 109]⟩, .int .i64 1, .int .u64 si] 101)) hgr hown)
         have hcf3 := HO3.out.cf
         have s0 : w3.cell? ⟨w.heap.size, 0, none⟩ = some (.int .i64 3) := hcf3.cell 0
         have s1 : w3.cell? ⟨w.heap.size, 1, none⟩ = some (.int .i64 width) := hcf3.cell 1
         have s2 : w3.cell? ⟨w.heap.size, 2, none⟩ = some (.int .i64 cap) := hcf3.cell 2
         have s3 : w3.cell? ⟨w.heap.size, 3, none⟩ = some (.int .i64 producers) := hcf3.cell 3
         have s4 : w3.cell? ⟨w.heap.size, 4, none⟩ = some (.int .u64 start) := hcf3.cell 4
         have s5 : w3.cell? ⟨w.heap.size, 5, none⟩ = some (.slice ua un uc) := hcf3.cell 5
         clear hown hgr hat hlt3 hcf3)
      | (go_at_call_of 119 (Value.string ⟨#[109, 97, 114, 107]⟩)
         have hq := HSLmark.out w3
         refine hq.mono ?_
         clear hq
         rintro e w4a ⟨v2, rfl, hrow2, hb2⟩
         obtain ⟨A2, c2, rfl, _⟩ := own_form hrow2
         have HR2 := Lib.hid hrow2
         have HB2 := Lib.hid hb2
         clear hrow2 hb2)
      | (at_builtin
         refine wpList_append_any _ rfl (.tmp 44) (.tmp 46) 49 (by rfl) w.heap.size 101 i0 _ 3 32 Tryz.underlying49 HI.out.1 HI.out.2.1 HI.out.2.2.1 HI.out.2.2.2 rfl (by decide) _ _ _ (by rfl) ((HO3.out.below HB2.out).row) _ A2 _ c2 _ (by rfl) (Reads.of_own HR2.out) (by intro u hu; simp only [rcsVs, List.mem_flatMap] at hu; obtain ⟨x, _, hx⟩ := hu; exact one_rc x u hx) (by simp only [List.length_append, List.length_cons, List.length_nil, rcSlots_len]; unfold maxLen; omega) (by simp only [List.length_append, List.length_cons, List.length_nil, rcSlots_len]; omega) (by have := HO3.out.bel.size; have := HB2.out.size; omega) ?_
         intro v4 w4 hown hgr hat
         have HO4 := Lib.hid (HO3.out.add (l2 := rcSlots nmmark 1 (fun i => aheadI (MW width) cap i si) cap.toNat) (by decide) HB2.out hgr hown)
         have hcf4 := HO4.out.cf
         have t0 : w4.cell? ⟨w.heap.size, 0, none⟩ = some (.int .i64 3) := hcf4.cell 0
         have t1 : w4.cell? ⟨w.heap.size, 1, none⟩ = some (.int .i64 width) := hcf4.cell 1
         have t2 : w4.cell? ⟨w.heap.size, 2, none⟩ = some (.int .i64 cap) := hcf4.cell 2
         have t3 : w4.cell? ⟨w.heap.size, 3, none⟩ = some (.int .i64 producers) := hcf4.cell 3
         have t4 : w4.cell? ⟨w.heap.size, 4, none⟩ = some (.int .u64 start) := hcf4.cell 4
         have t5 : w4.cell? ⟨w.heap.size, 5, none⟩ = some (.slice ua un uc) := hcf4.cell 5
         clear hown hgr hat hcf4)
      | (go_at_call_of 119 (Value.string ⟨#[115, 108, 111, 116]⟩)
         have hq := HSLslot.out w4
         refine hq.mono ?_
         clear hq
         rintro e w5a ⟨v2, rfl, hrow2, hb2⟩
         obtain ⟨A2, c2, rfl, _⟩ := own_form hrow2
         have HR2 := Lib.hid hrow2
         have HB2 := Lib.hid hb2
         clear hrow2 hb2)
      | (at_builtin
         refine wpList_append_any _ rfl (.tmp 74) (.tmp 76) 49 (by rfl) w.heap.size 101 i0 _ 3 32 Tryz.underlying49 HI.out.1 HI.out.2.1 HI.out.2.2.1 HI.out.2.2.2 rfl (by decide) _ _ _ (by rfl) ((HO4.out.below HB2.out).row) _ A2 _ c2 _ (by rfl) (Reads.of_own HR2.out) (by intro u hu; simp only [rcsVs, List.mem_flatMap] at hu; obtain ⟨x, _, hx⟩ := hu; exact one_rc x u hx) (by simp only [List.length_append, List.length_cons, List.length_nil, rcSlots_len]; unfold maxLen; omega) (by simp only [List.length_append, List.length_cons, List.length_nil, rcSlots_len]; omega) (by have := HO4.out.bel.size; have := HB2.out.size; omega) ?_
         intro v4 w5 hown hgr hat
         have HO5 := Lib.hid (HO4.out.add (l2 := rcSlots nmslot 3 (fun _ => 0) cap.toNat) (by decide) HB2.out hgr hown)
         have hcf4 := HO5.out.cf
         have t0 : w5.cell? ⟨w.heap.size, 0, none⟩ = some (.int .i64 3) := hcf4.cell 0
         have t1 : w5.cell? ⟨w.heap.size, 1, none⟩ = some (.int .i64 width) := hcf4.cell 1
         have t2 : w5.cell? ⟨w.heap.size, 2, none⟩ = some (.int .i64 cap) := hcf4.cell 2
         have t3 : w5.cell? ⟨w.heap.size, 3, none⟩ = some (.int .i64 producers) := hcf4.cell 3
         have t4 : w5.cell? ⟨w.heap.size, 4, none⟩ = some (.int .u64 start) := hcf4.cell 4
         have t5 : w5.cell? ⟨w.heap.size, 5, none⟩ = some (.slice ua un uc) := hcf4.cell 5
         clear hown hgr hat hcf4))
      go_ret
      have hl : rcOf ⟨3, width, cap, producers, start, ua, un, uc⟩ = _ := (show rcOf _ = ((rcSlots nmgate 1 (fun _ => si) un ++ [⟨[99, 108, 97, 105, 109], 1, si⟩]) ++ rcSlots nmmark 1 (fun i => aheadI (MW width) cap i si) cap.toNat) ++ rcSlots nmslot 3 (fun _ => 0) cap.toNat by simp [rcOf, rcGates, rcMid, rcSl, rcSt, HSI.out])
      refine ⟨_, rfl, ?_, HO5.out.bel⟩
      rw [hl]
      exact HO5.out.row
theorem rof11_4 (width cap producers start : Int) (ua : Option Addr) (un uc : Nat) (hw : width = 32 ∨ width = 64) (hc : Cap2 cap) (hst : 0 ≤ start ∧ start ≤ 18446744073709551615) (hun : un ≤ 6) (w : World) :
    Calls Tryz.prog 51 #[.agg #[.int .i64 4, .int .i64 width, .int .i64 cap, .int .i64 producers, .int .u64 start, .slice ua un uc]] w (RowEnd 101 (rcOf ⟨4, width, cap, producers, start, ua, un, uc⟩) w) := by
  have hstart := fun W => rstartI ⟨4, width, cap, producers, start, ua, un, uc⟩ hw hst W
  have hcb := hc.bd
  have HSLmark := Lib.hid (fun W => rslots_mark ⟨4, width, cap, producers, start, ua, un, uc⟩ hw hc hst W)
  have HSLstamp := Lib.hid (fun W => rslots_stamp ⟨4, width, cap, producers, start, ua, un, uc⟩ hw hc hst W)
  have HSLdone := Lib.hid (fun W => rslots_done ⟨4, width, cap, producers, start, ua, un, uc⟩ hw hc hst W)
  have HSLslot := Lib.hid (fun W => rslots_slot ⟨4, width, cap, producers, start, ua, un, uc⟩ hw hc hst W)
  unfold Cf.vs at HSLmark HSLstamp HSLdone HSLslot hstart
  obtain ⟨i0, hinf⟩ := info_parts rc_info
  have HI := Lib.hid hinf
  clear hinf
  generalize hsi : startI ⟨4, width, cap, producers, start, ua, un, uc⟩ = si at *
  have HSI := Lib.hid hsi
  unfold startI at hsi
  dsimp only at hsi hstart
  rw [hsi] at hstart
  have HS := Lib.hid hstart
  clear hstart hsi hw hc hst
  go_enter Tryz.func51, Tryz.ntmps51
  go_wp2_with (go_at_call 78; refine (HS.out _).mono ?_; rintro e w1 ⟨rfl, hb1⟩; have HCF := Lib.hid ((Blk.new w 25 _).below hb1 (by simp)); have HB1 := Lib.hid (below_new hb1); clear hb1)
  go_loopw [3, 5] (fun v i wr => ∃ k : Nat, i = .int .i64 k ∧ k ≤ un ∧ OfSt 101 25 #[.int .i64 4, .int .i64 width, .int .i64 cap, .int .i64 producers, .int .u64 start, .slice ua un uc] w wr v (rcSlots nmgate 1 (fun _ => si) k)) (fun _ i _ => un - (intOf i).toNat)
  case atStart => exact ⟨0, rfl, by omega, World.ownsRow_nil _ _ _ _, HB1.out, HCF.out⟩
  case round =>
    obtain ⟨k, rfl, hk, hos⟩ := hrel
    have hcf := hos.cf
    have q0 : wr.cell? ⟨w.heap.size, 0, none⟩ = some (.int .i64 4) := hcf.cell 0
    have q1 : wr.cell? ⟨w.heap.size, 1, none⟩ = some (.int .i64 width) := hcf.cell 1
    have q2 : wr.cell? ⟨w.heap.size, 2, none⟩ = some (.int .i64 cap) := hcf.cell 2
    have q3 : wr.cell? ⟨w.heap.size, 3, none⟩ = some (.int .i64 producers) := hcf.cell 3
    have q4 : wr.cell? ⟨w.heap.size, 4, none⟩ = some (.int .u64 start) := hcf.cell 4
    have q5 : wr.cell? ⟨w.heap.size, 5, none⟩ = some (.slice ua un uc) := hcf.cell 5
    have hwl := hcf.lt
    obtain ⟨A1, c1, rfl, hc1⟩ := own_form hos.row
    have HOS := Lib.hid hos
    have HLN := Lib.hid (rcSlots_len nmgate 1 (fun _ => si) k)
    clear hos hcf
    by_cases hlt : (k : Int) < un
    · have hadd : ∀ W, (Op.stringOp .add ⟨#[103, 97, 116, 101]⟩ (strS (digL k))).run Tryz.prog W = .ok (.string (strS (nmgate ++ digL k))) W := fun W => name_add nmgate (by decide) k (by omega) W
      go_wp2_with (first
        | (go_at_call 118; refine (rnum k (by omega) _).mono ?_; rintro e w2 ⟨rfl, hb2⟩; have hz2 := hb2.size; have HB2 := Lib.hid hb2; clear hb2)
        | (at_builtin
           refine wpList_append_lies _ rfl (.tmp 15) (.tmp 21) 49 rfl w.heap.size 101 i0 _ 3 32 Tryz.underlying49 HI.out.1 HI.out.2.1 HI.out.2.2.1 HI.out.2.2.2 rfl (by decide) (.slice A1 _ c1) _ _ (by rfl) ((HOS.out.below (HB2.out.alloc hz2 _)).row) ⟨w2.heap.size, 0, none⟩ 1 1 (RC.vs ⟨nmgate ++ digL k, 1, si⟩) (by rfl) (by rfl) (news_rc _ _) (one_rc _) (by decide) (by rw [HLN.out]; unfold maxLen; omega) (by rw [HLN.out]; omega) (by have := HOS.out.bel.size; simp; omega) _ (by rfl) ?_
           intro g cc w3 hown hgr hat hlt3
           have h3 := HOS.out.add (l2 := [⟨nmgate ++ digL k, 1, si⟩]) (by decide) (HB2.out.alloc hz2 (.cells #[.string (strS (nmgate ++ digL k)), .int .i64 1, .int .u64 si] 101)) hgr (by rw [rcsVs_one]; exact hown)
           rw [← rcSlots_succ] at h3
           have HO3 := Lib.hid h3
           clear hown hgr hat hlt3 h3))
      go_round
      case rel => exact ⟨k + 1, by go_num, by omega, HO3.out⟩
      case measure => simp only [intOf]; omega
    · obtain rfl : un = k := by omega
      go_wp2_with (first
      | (at_builtin
         refine wpList_append_lies _ rfl (.tmp 51) (.tmp 54) 49 rfl w.heap.size 101 i0 _ 3 32 Tryz.underlying49 HI.out.1 HI.out.2.1 HI.out.2.2.1 HI.out.2.2.2 rfl (by decide) (.slice A1 _ c1) _ _ (by rfl) ((HOS.out.below ((Below.refl _ _).alloc (Nat.le_refl _) _)).row) ⟨wr.heap.size, 0, none⟩ 1 1 (rcsVs [⟨[99, 108, 97, 105, 109], 1, si⟩]) (by rfl) (by rfl) (World.news_of_block (heap_alloc_new wr (.cells #[.string ⟨#[99, 108, 97, 105, 109]⟩, .int .i64 1, .int .u64 si] 101))) (by intro u hu; simp only [rcsVs, List.mem_flatMap] at hu; obtain ⟨x, _, hx⟩ := hu; exact one_rc x u hx) (by decide) (by rw [HLN.out]; unfold maxLen; omega) (by rw [HLN.out]; omega) (by have := HOS.out.bel.size; simp; omega) _ (by rfl) ?_
         intro g cc w3 hown hgr hat hlt3
         have HO3 := Lib.hid (HOS.out.add (l2 := [⟨[99, 108, 97, 105, 109], 1, si⟩]) (by decide) ((Below.refl wr.heap.size wr).alloc (Nat.le_refl _) (.cells #[.string ⟨#[99, 108, 97, 105, 109]⟩, .int .i64 1, .int .u64 si] 101)) hgr hown)
         have hcf3 := HO3.out.cf
         have s0 : w3.cell? ⟨w.heap.size, 0, none⟩ = some (.int .i64 4) := hcf3.cell 0
         have s1 : w3.cell? ⟨w.heap.size, 1, none⟩ = some (.int .i64 width) := hcf3.cell 1
         have s2 : w3.cell? ⟨w.heap.size, 2, none⟩ = some (.int .i64 cap) := hcf3.cell 2
         have s3 : w3.cell? ⟨w.heap.size, 3, none⟩ = some (.int .i64 producers) := hcf3.cell 3
         have s4 : w3.cell? ⟨w.heap.size, 4, none⟩ = some (.int .u64 start) := hcf3.cell 4
         have s5 : w3.cell? ⟨w.heap.size, 5, none⟩ = some (.slice ua un uc) := hcf3.cell 5
         clear hown hgr hat hlt3 hcf3)
      | (go_at_call_of 119 (Value.string ⟨#[115, 116, 97, 109, 112]⟩)
         have hq := HSLstamp.out w3
         refine hq.mono ?_
         clear hq
         rintro e w4a ⟨v2, rfl, hrow2, hb2⟩
         obtain ⟨A2, c2, rfl, _⟩ := own_form hrow2
         have HR2 := Lib.hid hrow2
         have HB2 := Lib.hid hb2
         clear hrow2 hb2)
      | (at_builtin
         refine wpList_append_any _ rfl (.tmp 56) (.tmp 58) 49 (by rfl) w.heap.size 101 i0 _ 3 32 Tryz.underlying49 HI.out.1 HI.out.2.1 HI.out.2.2.1 HI.out.2.2.2 rfl (by decide) _ _ _ (by rfl) ((HO3.out.below HB2.out).row) _ A2 _ c2 _ (by rfl) (Reads.of_own HR2.out) (by intro u hu; simp only [rcsVs, List.mem_flatMap] at hu; obtain ⟨x, _, hx⟩ := hu; exact one_rc x u hx) (by simp only [List.length_append, List.length_cons, List.length_nil, rcSlots_len]; unfold maxLen; omega) (by simp only [List.length_append, List.length_cons, List.length_nil, rcSlots_len]; omega) (by have := HO3.out.bel.size; have := HB2.out.size; omega) ?_
         intro v4 w4 hown hgr hat
         have HO4 := Lib.hid (HO3.out.add (l2 := rcSlots nmstamp 1 (fun i => firstI (MW width) cap i si) cap.toNat) (by decide) HB2.out hgr hown)
         have hcf4 := HO4.out.cf
         have t0 : w4.cell? ⟨w.heap.size, 0, none⟩ = some (.int .i64 4) := hcf4.cell 0
         have t1 : w4.cell? ⟨w.heap.size, 1, none⟩ = some (.int .i64 width) := hcf4.cell 1
         have t2 : w4.cell? ⟨w.heap.size, 2, none⟩ = some (.int .i64 cap) := hcf4.cell 2
         have t3 : w4.cell? ⟨w.heap.size, 3, none⟩ = some (.int .i64 producers) := hcf4.cell 3
         have t4 : w4.cell? ⟨w.heap.size, 4, none⟩ = some (.int .u64 start) := hcf4.cell 4
         have t5 : w4.cell? ⟨w.heap.size, 5, none⟩ = some (.slice ua un uc) := hcf4.cell 5
         clear hown hgr hat hcf4)
      | (go_at_call_of 119 (Value.string ⟨#[115, 108, 111, 116]⟩)
         have hq := HSLslot.out w4
         refine hq.mono ?_
         clear hq
         rintro e w5a ⟨v2, rfl, hrow2, hb2⟩
         obtain ⟨A2, c2, rfl, _⟩ := own_form hrow2
         have HR2 := Lib.hid hrow2
         have HB2 := Lib.hid hb2
         clear hrow2 hb2)
      | (at_builtin
         refine wpList_append_any _ rfl (.tmp 74) (.tmp 76) 49 (by rfl) w.heap.size 101 i0 _ 3 32 Tryz.underlying49 HI.out.1 HI.out.2.1 HI.out.2.2.1 HI.out.2.2.2 rfl (by decide) _ _ _ (by rfl) ((HO4.out.below HB2.out).row) _ A2 _ c2 _ (by rfl) (Reads.of_own HR2.out) (by intro u hu; simp only [rcsVs, List.mem_flatMap] at hu; obtain ⟨x, _, hx⟩ := hu; exact one_rc x u hx) (by simp only [List.length_append, List.length_cons, List.length_nil, rcSlots_len]; unfold maxLen; omega) (by simp only [List.length_append, List.length_cons, List.length_nil, rcSlots_len]; omega) (by have := HO4.out.bel.size; have := HB2.out.size; omega) ?_
         intro v4 w5 hown hgr hat
         have HO5 := Lib.hid (HO4.out.add (l2 := rcSlots nmslot 3 (fun _ => 0) cap.toNat) (by decide) HB2.out hgr hown)
         have hcf4 := HO5.out.cf
         have t0 : w5.cell? ⟨w.heap.size, 0, none⟩ = some (.int .i64 4) := hcf4.cell 0
         have t1 : w5.cell? ⟨w.heap.size, 1, none⟩ = some (.int .i64 width) := hcf4.cell 1
         have t2 : w5.cell? ⟨w.heap.size, 2, none⟩ = some (.int .i64 cap) := hcf4.cell 2
         have t3 : w5.cell? ⟨w.heap.size, 3, none⟩ = some (.int .i64 producers) := hcf4.cell 3
         have t4 : w5.cell? ⟨w.heap.size, 4, none⟩ = some (.int .u64 start) := hcf4.cell 4
         have t5 : w5.cell? ⟨w.heap.size, 5, none⟩ = some (.slice ua un uc) := hcf4.cell 5
         clear hown hgr hat hcf4))
      go_ret
      have hl : rcOf ⟨4, width, cap, producers, start, ua, un, uc⟩ = _ := (show rcOf _ = ((rcSlots nmgate 1 (fun _ => si) un ++ [⟨[99, 108, 97, 105, 109], 1, si⟩]) ++ rcSlots nmstamp 1 (fun i => firstI (MW width) cap i si) cap.toNat) ++ rcSlots nmslot 3 (fun _ => 0) cap.toNat by simp [rcOf, rcGates, rcMid, rcSl, rcSt, HSI.out])
      refine ⟨_, rfl, ?_, HO5.out.bel⟩
      rw [hl]
      exact HO5.out.row
theorem rof11_5 (width cap producers start : Int) (ua : Option Addr) (un uc : Nat) (hw : width = 32 ∨ width = 64) (hc : Cap2 cap) (hst : 0 ≤ start ∧ start ≤ 18446744073709551615) (hun : un ≤ 6) (w : World) :
    Calls Tryz.prog 51 #[.agg #[.int .i64 5, .int .i64 width, .int .i64 cap, .int .i64 producers, .int .u64 start, .slice ua un uc]] w (RowEnd 101 (rcOf ⟨5, width, cap, producers, start, ua, un, uc⟩) w) := by
  have hstart := fun W => rstartI ⟨5, width, cap, producers, start, ua, un, uc⟩ hw hst W
  have hcb := hc.bd
  have HSLmark := Lib.hid (fun W => rslots_mark ⟨5, width, cap, producers, start, ua, un, uc⟩ hw hc hst W)
  have HSLstamp := Lib.hid (fun W => rslots_stamp ⟨5, width, cap, producers, start, ua, un, uc⟩ hw hc hst W)
  have HSLdone := Lib.hid (fun W => rslots_done ⟨5, width, cap, producers, start, ua, un, uc⟩ hw hc hst W)
  have HSLslot := Lib.hid (fun W => rslots_slot ⟨5, width, cap, producers, start, ua, un, uc⟩ hw hc hst W)
  unfold Cf.vs at HSLmark HSLstamp HSLdone HSLslot hstart
  obtain ⟨i0, hinf⟩ := info_parts rc_info
  have HI := Lib.hid hinf
  clear hinf
  generalize hsi : startI ⟨5, width, cap, producers, start, ua, un, uc⟩ = si at *
  have HSI := Lib.hid hsi
  unfold startI at hsi
  dsimp only at hsi hstart
  rw [hsi] at hstart
  have HS := Lib.hid hstart
  clear hstart hsi hw hc hst
  go_enter Tryz.func51, Tryz.ntmps51
  go_wp2_with (go_at_call 78; refine (HS.out _).mono ?_; rintro e w1 ⟨rfl, hb1⟩; have HCF := Lib.hid ((Blk.new w 25 _).below hb1 (by simp)); have HB1 := Lib.hid (below_new hb1); clear hb1)
  go_loopw [3, 5] (fun v i wr => ∃ k : Nat, i = .int .i64 k ∧ k ≤ un ∧ OfSt 101 25 #[.int .i64 5, .int .i64 width, .int .i64 cap, .int .i64 producers, .int .u64 start, .slice ua un uc] w wr v (rcSlots nmgate 1 (fun _ => si) k)) (fun _ i _ => un - (intOf i).toNat)
  case atStart => exact ⟨0, rfl, by omega, World.ownsRow_nil _ _ _ _, HB1.out, HCF.out⟩
  case round =>
    obtain ⟨k, rfl, hk, hos⟩ := hrel
    have hcf := hos.cf
    have q0 : wr.cell? ⟨w.heap.size, 0, none⟩ = some (.int .i64 5) := hcf.cell 0
    have q1 : wr.cell? ⟨w.heap.size, 1, none⟩ = some (.int .i64 width) := hcf.cell 1
    have q2 : wr.cell? ⟨w.heap.size, 2, none⟩ = some (.int .i64 cap) := hcf.cell 2
    have q3 : wr.cell? ⟨w.heap.size, 3, none⟩ = some (.int .i64 producers) := hcf.cell 3
    have q4 : wr.cell? ⟨w.heap.size, 4, none⟩ = some (.int .u64 start) := hcf.cell 4
    have q5 : wr.cell? ⟨w.heap.size, 5, none⟩ = some (.slice ua un uc) := hcf.cell 5
    have hwl := hcf.lt
    obtain ⟨A1, c1, rfl, hc1⟩ := own_form hos.row
    have HOS := Lib.hid hos
    have HLN := Lib.hid (rcSlots_len nmgate 1 (fun _ => si) k)
    clear hos hcf
    by_cases hlt : (k : Int) < un
    · have hadd : ∀ W, (Op.stringOp .add ⟨#[103, 97, 116, 101]⟩ (strS (digL k))).run Tryz.prog W = .ok (.string (strS (nmgate ++ digL k))) W := fun W => name_add nmgate (by decide) k (by omega) W
      go_wp2_with (first
        | (go_at_call 118; refine (rnum k (by omega) _).mono ?_; rintro e w2 ⟨rfl, hb2⟩; have hz2 := hb2.size; have HB2 := Lib.hid hb2; clear hb2)
        | (at_builtin
           refine wpList_append_lies _ rfl (.tmp 15) (.tmp 21) 49 rfl w.heap.size 101 i0 _ 3 32 Tryz.underlying49 HI.out.1 HI.out.2.1 HI.out.2.2.1 HI.out.2.2.2 rfl (by decide) (.slice A1 _ c1) _ _ (by rfl) ((HOS.out.below (HB2.out.alloc hz2 _)).row) ⟨w2.heap.size, 0, none⟩ 1 1 (RC.vs ⟨nmgate ++ digL k, 1, si⟩) (by rfl) (by rfl) (news_rc _ _) (one_rc _) (by decide) (by rw [HLN.out]; unfold maxLen; omega) (by rw [HLN.out]; omega) (by have := HOS.out.bel.size; simp; omega) _ (by rfl) ?_
           intro g cc w3 hown hgr hat hlt3
           have h3 := HOS.out.add (l2 := [⟨nmgate ++ digL k, 1, si⟩]) (by decide) (HB2.out.alloc hz2 (.cells #[.string (strS (nmgate ++ digL k)), .int .i64 1, .int .u64 si] 101)) hgr (by rw [rcsVs_one]; exact hown)
           rw [← rcSlots_succ] at h3
           have HO3 := Lib.hid h3
           clear hown hgr hat hlt3 h3))
      go_round
      case rel => exact ⟨k + 1, by go_num, by omega, HO3.out⟩
      case measure => simp only [intOf]; omega
    · obtain rfl : un = k := by omega
      go_wp2_with (first
      | (at_builtin
         refine wpList_append_lies _ rfl (.tmp 63) (.tmp 68) 49 rfl w.heap.size 101 i0 _ 3 32 Tryz.underlying49 HI.out.1 HI.out.2.1 HI.out.2.2.1 HI.out.2.2.2 rfl (by decide) (.slice A1 _ c1) _ _ (by rfl) ((HOS.out.below ((Below.refl _ _).alloc (Nat.le_refl _) _)).row) ⟨wr.heap.size, 0, none⟩ 3 3 (rcsVs [⟨[116, 105, 99, 107, 101, 116], 1, 0⟩, ⟨[115, 101, 114, 118, 105, 110, 103], 1, 0⟩, ⟨[110, 101, 120, 116], 2, si⟩]) (by rfl) (by rfl) (World.news_of_block (heap_alloc_new wr (.cells #[.string ⟨#[116, 105, 99, 107, 101, 116]⟩, .int .i64 1, .int .u64 0, .string ⟨#[115, 101, 114, 118, 105, 110, 103]⟩, .int .i64 1, .int .u64 0, .string ⟨#[110, 101, 120, 116]⟩, .int .i64 2, .int .u64 si] 101))) (by intro u hu; simp only [rcsVs, List.mem_flatMap] at hu; obtain ⟨x, _, hx⟩ := hu; exact one_rc x u hx) (by decide) (by rw [HLN.out]; unfold maxLen; omega) (by rw [HLN.out]; omega) (by have := HOS.out.bel.size; simp; omega) _ (by rfl) ?_
         intro g cc w3 hown hgr hat hlt3
         have HO3 := Lib.hid (HOS.out.add (l2 := [⟨[116, 105, 99, 107, 101, 116], 1, 0⟩, ⟨[115, 101, 114, 118, 105, 110, 103], 1, 0⟩, ⟨[110, 101, 120, 116], 2, si⟩]) (by decide) ((Below.refl wr.heap.size wr).alloc (Nat.le_refl _) (.cells #[.string ⟨#[116, 105, 99, 107, 101, 116]⟩, .int .i64 1, .int .u64 0, .string ⟨#[115, 101, 114, 118, 105, 110, 103]⟩, .int .i64 1, .int .u64 0, .string ⟨#[110, 101, 120, 116]⟩, .int .i64 2, .int .u64 si] 101)) hgr hown)
         have hcf3 := HO3.out.cf
         have s0 : w3.cell? ⟨w.heap.size, 0, none⟩ = some (.int .i64 5) := hcf3.cell 0
         have s1 : w3.cell? ⟨w.heap.size, 1, none⟩ = some (.int .i64 width) := hcf3.cell 1
         have s2 : w3.cell? ⟨w.heap.size, 2, none⟩ = some (.int .i64 cap) := hcf3.cell 2
         have s3 : w3.cell? ⟨w.heap.size, 3, none⟩ = some (.int .i64 producers) := hcf3.cell 3
         have s4 : w3.cell? ⟨w.heap.size, 4, none⟩ = some (.int .u64 start) := hcf3.cell 4
         have s5 : w3.cell? ⟨w.heap.size, 5, none⟩ = some (.slice ua un uc) := hcf3.cell 5
         clear hown hgr hat hlt3 hcf3)
      | (go_at_call_of 119 (Value.string ⟨#[100, 111, 110, 101]⟩)
         have hq := HSLdone.out w3
         refine hq.mono ?_
         clear hq
         rintro e w4a ⟨v2, rfl, hrow2, hb2⟩
         obtain ⟨A2, c2, rfl, _⟩ := own_form hrow2
         have HR2 := Lib.hid hrow2
         have HB2 := Lib.hid hb2
         clear hrow2 hb2)
      | (at_builtin
         refine wpList_append_any _ rfl (.tmp 70) (.tmp 72) 49 (by rfl) w.heap.size 101 i0 _ 3 32 Tryz.underlying49 HI.out.1 HI.out.2.1 HI.out.2.2.1 HI.out.2.2.2 rfl (by decide) _ _ _ (by rfl) ((HO3.out.below HB2.out).row) _ A2 _ c2 _ (by rfl) (Reads.of_own HR2.out) (by intro u hu; simp only [rcsVs, List.mem_flatMap] at hu; obtain ⟨x, _, hx⟩ := hu; exact one_rc x u hx) (by simp only [List.length_append, List.length_cons, List.length_nil, rcSlots_len]; unfold maxLen; omega) (by simp only [List.length_append, List.length_cons, List.length_nil, rcSlots_len]; omega) (by have := HO3.out.bel.size; have := HB2.out.size; omega) ?_
         intro v4 w4 hown hgr hat
         have HO4 := Lib.hid (HO3.out.add (l2 := rcSlots nmdone 2 (fun i => aheadI (MW width) cap i si) cap.toNat) (by decide) HB2.out hgr hown)
         have hcf4 := HO4.out.cf
         have t0 : w4.cell? ⟨w.heap.size, 0, none⟩ = some (.int .i64 5) := hcf4.cell 0
         have t1 : w4.cell? ⟨w.heap.size, 1, none⟩ = some (.int .i64 width) := hcf4.cell 1
         have t2 : w4.cell? ⟨w.heap.size, 2, none⟩ = some (.int .i64 cap) := hcf4.cell 2
         have t3 : w4.cell? ⟨w.heap.size, 3, none⟩ = some (.int .i64 producers) := hcf4.cell 3
         have t4 : w4.cell? ⟨w.heap.size, 4, none⟩ = some (.int .u64 start) := hcf4.cell 4
         have t5 : w4.cell? ⟨w.heap.size, 5, none⟩ = some (.slice ua un uc) := hcf4.cell 5
         clear hown hgr hat hcf4)
      | (go_at_call_of 119 (Value.string ⟨#[115, 108, 111, 116]⟩)
         have hq := HSLslot.out w4
         refine hq.mono ?_
         clear hq
         rintro e w5a ⟨v2, rfl, hrow2, hb2⟩
         obtain ⟨A2, c2, rfl, _⟩ := own_form hrow2
         have HR2 := Lib.hid hrow2
         have HB2 := Lib.hid hb2
         clear hrow2 hb2)
      | (at_builtin
         refine wpList_append_any _ rfl (.tmp 74) (.tmp 76) 49 (by rfl) w.heap.size 101 i0 _ 3 32 Tryz.underlying49 HI.out.1 HI.out.2.1 HI.out.2.2.1 HI.out.2.2.2 rfl (by decide) _ _ _ (by rfl) ((HO4.out.below HB2.out).row) _ A2 _ c2 _ (by rfl) (Reads.of_own HR2.out) (by intro u hu; simp only [rcsVs, List.mem_flatMap] at hu; obtain ⟨x, _, hx⟩ := hu; exact one_rc x u hx) (by simp only [List.length_append, List.length_cons, List.length_nil, rcSlots_len]; unfold maxLen; omega) (by simp only [List.length_append, List.length_cons, List.length_nil, rcSlots_len]; omega) (by have := HO4.out.bel.size; have := HB2.out.size; omega) ?_
         intro v4 w5 hown hgr hat
         have HO5 := Lib.hid (HO4.out.add (l2 := rcSlots nmslot 3 (fun _ => 0) cap.toNat) (by decide) HB2.out hgr hown)
         have hcf4 := HO5.out.cf
         have t0 : w5.cell? ⟨w.heap.size, 0, none⟩ = some (.int .i64 5) := hcf4.cell 0
         have t1 : w5.cell? ⟨w.heap.size, 1, none⟩ = some (.int .i64 width) := hcf4.cell 1
         have t2 : w5.cell? ⟨w.heap.size, 2, none⟩ = some (.int .i64 cap) := hcf4.cell 2
         have t3 : w5.cell? ⟨w.heap.size, 3, none⟩ = some (.int .i64 producers) := hcf4.cell 3
         have t4 : w5.cell? ⟨w.heap.size, 4, none⟩ = some (.int .u64 start) := hcf4.cell 4
         have t5 : w5.cell? ⟨w.heap.size, 5, none⟩ = some (.slice ua un uc) := hcf4.cell 5
         clear hown hgr hat hcf4))
      go_ret
      have hl : rcOf ⟨5, width, cap, producers, start, ua, un, uc⟩ = _ := (show rcOf _ = ((rcSlots nmgate 1 (fun _ => si) un ++ [⟨[116, 105, 99, 107, 101, 116], 1, 0⟩, ⟨[115, 101, 114, 118, 105, 110, 103], 1, 0⟩, ⟨[110, 101, 120, 116], 2, si⟩]) ++ rcSlots nmdone 2 (fun i => aheadI (MW width) cap i si) cap.toNat) ++ rcSlots nmslot 3 (fun _ => 0) cap.toNat by simp [rcOf, rcGates, rcMid, rcSl, rcSt, HSI.out])
      refine ⟨_, rfl, ?_, HO5.out.bel⟩
      rw [hl]
      exact HO5.out.row
end Go.Proofs.YtmjpdojecdnkjaaGreat
