/- sakialaw22.conf: a case's configuration. -/
import Derived.Test.YtnkmlopjinihiaaDoorCaseP
import Derived.Test.YtnkmlopjinihiaaDoorEnds
namespace Go.Proofs.YtnkmlopjinihiaaDoor
open Go.RowKit
set_option linter.unusedVariables false
set_option linter.unusedSimpArgs false
set_option maxHeartbeats 4000000

set_option maxRecDepth 100000 in
theorem conf22_false (lg pr rt st : Int) (hl : 0 ≤ lg ∧ lg ≤ 255) (hp : 0 ≤ pr ∧ pr ≤ 255) (hr : 0 ≤ rt ∧ rt ≤ 255) (w : World) :
    Calls Tryd.prog 57 #[.agg #[.bool false, .int .u8 lg, .int .u8 pr, .int .u8 rt, .int .u64 st]] w (CaseEnd 4 32 (capC lg) (1 + pr % 4) st rt w) := by
  obtain ⟨i0, hi, hz0, hz1, hz2⟩ := info_parts caseinf
  have HI := Lib.hid (And.intro hi (And.intro hz0 (And.intro hz1 hz2)))
  clear hi hz0 hz1 hz2
  have hcp : wrap64 (2 * 2 ^ (lg % 4).toNat) = capC lg := capC_w hl
  generalize capC lg = cp at *
  have HCP := Lib.hid hcp
  obtain ⟨np, hnp⟩ : ∃ np : Int, np = 1 + pr % 4 := ⟨_, rfl⟩
  rw [← hnp]
  have HPW := Lib.hid hnp
  clear hnp
  have h3 : 0 ≤ rt % 3 ∧ rt % 3 ≤ 2 := by omega
  clear hcp
  go_enter Tryd.func57, Tryd.ntmps57
  go_wp2_with fail
  rw [HCP.out, ← HPW.out]
  have B0 : Blk (((w.alloc (.cells #[.bool false, .int .u8 lg, .int .u8 pr, .int .u8 rt, .int .u64 st] 97)).alloc (.cells #[.int .i64 0, .int .i64 0, .int .i64 0, .int .i64 0, .int .u64 0, .slice none 0 0] 25)).alloc (.cells #[.int .i64 4, .int .i64 32, .int .i64 cp, .int .i64 np, .int .u64 st, .slice none 0 0] 25)) w.heap.size 97 #[.bool false, .int .u8 lg, .int .u8 pr, .int .u8 rt, .int .u64 st] := ((Blk.new w _ _).alloc _).alloc _
  have B1 : Blk (((w.alloc (.cells #[.bool false, .int .u8 lg, .int .u8 pr, .int .u8 rt, .int .u64 st] 97)).alloc (.cells #[.int .i64 0, .int .i64 0, .int .i64 0, .int .i64 0, .int .u64 0, .slice none 0 0] 25)).alloc (.cells #[.int .i64 4, .int .i64 32, .int .i64 cp, .int .i64 np, .int .u64 st, .slice none 0 0] 25)) (w.heap.size + 1) 25 #[.int .i64 0, .int .i64 0, .int .i64 0, .int .i64 0, .int .u64 0, .slice none 0 0] := (Blk.snd w _ _ _).alloc _
  have B2 : Blk (((w.alloc (.cells #[.bool false, .int .u8 lg, .int .u8 pr, .int .u8 rt, .int .u64 st] 97)).alloc (.cells #[.int .i64 0, .int .i64 0, .int .i64 0, .int .i64 0, .int .u64 0, .slice none 0 0] 25)).alloc (.cells #[.int .i64 4, .int .i64 32, .int .i64 cp, .int .i64 np, .int .u64 st, .slice none 0 0] 25)) (w.heap.size + 1 + 1) 25 #[.int .i64 4, .int .i64 32, .int .i64 cp, .int .i64 np, .int .u64 st, .slice none 0 0] := Blk.thd w _ _ _ _
  have hbe := (((Below.refl w.heap.size w).alloc (Nat.le_refl _) (.cells #[.bool false, .int .u8 lg, .int .u8 pr, .int .u8 rt, .int .u64 st] 97)).alloc (by simp) (.cells #[.int .i64 0, .int .i64 0, .int .i64 0, .int .i64 0, .int .u64 0, .slice none 0 0] 25)).alloc (by simp; omega) (.cells #[.int .i64 4, .int .i64 32, .int .i64 cp, .int .i64 np, .int .u64 st, .slice none 0 0] 25)
  have HS := Lib.hid (And.intro hbe (And.intro B0 (And.intro B1 B2)))
  clear B0 B1 B2 hbe
  go_loopw [4] (fun i wr => ∃ (k : Nat) (v : Value), i = .int .i64 k ∧ (k : Int) ≤ rt % 3 + 1 ∧ Below w.heap.size w wr ∧ Blk wr w.heap.size 97 #[.bool false, .int .u8 lg, .int .u8 pr, .int .u8 rt, .int .u64 st] ∧ Blk wr (w.heap.size + 1) 25 #[.int .i64 0, .int .i64 0, .int .i64 0, .int .i64 0, .int .u64 0, .slice none 0 0] ∧ Blk wr (w.heap.size + 1 + 1) 25 #[.int .i64 4, .int .i64 32, .int .i64 cp, .int .i64 np, .int .u64 st, v] ∧ wr.ownsRow w.heap.size 58 1 v k (List.replicate k (.slice none 0 0))) (fun i _ => 3 - (intOf i).toNat)
  case atStart => exact ⟨0, .slice none 0 0, rfl, by omega, HS.out.1, HS.out.2.1, HS.out.2.2.1, HS.out.2.2.2, World.ownsRow_nil _ _ _ _⟩
  case round =>
    obtain ⟨k, v, rfl, hk, hbe, b0, b1, b2, hown⟩ := hrel
    obtain ⟨A, c, rfl, hc⟩ := own_form hown
    have q3 := b0.cell 3
    obtain ⟨p0, p1, p2, p3, p4, p5⟩ := blk_cells6 b2
    obtain ⟨s0, s1, s2, s3, s4, s5⟩ := blk_cells6 b1
    have hz1 := b1.lt
    have hz2 := b2.lt
    have f1 := fun i => Blk.frozen b1 i
    have f2 := fun i => Blk.frozen b2 i
    have HB := Lib.hid (And.intro hbe (And.intro b0 (And.intro b1 (And.intro b2 hown))))
    have hne1 : w.heap.size + 1 ≠ w.heap.size + 1 + 1 := by omega
    have hne2 : w.heap.size + 1 + 1 ≠ w.heap.size + 1 := by omega
    clear hbe b0 b1 b2 hown
    by_cases hlt : (k : Int) ≤ rt % 3
    · go_wp2_with (at_builtin
                   refine wpList_append_own _ rfl (.tmp 29) (.tmp 30) 23 rfl w.heap.size 58 i0 (.slice none 0 0) 1 24 Tryd.underlying23 HI.out.1 HI.out.2.1 HI.out.2.2.1 HI.out.2.2.2 rfl (by decide) (.slice A k c) k _ rfl (HB.out.2.2.2.2.alloc _) ⟨wr.heap.size, 0, none⟩ 1 1 [.slice none 0 0] rfl rfl ?d1 ?d2 ?d3 ?d4 ?d5 ?d6
                   case d1 => exact cell_one_new _ _ _
                   case d2 => (intro u hu; simp at hu; subst hu; rfl)
                   case d3 => (simp only [maxLen]; omega)
                   case d4 => omega
                   case d5 => (simp; have := HB.out.1.size; omega)
                   intro v2 w2 hown2 hg2 hat2
                   obtain ⟨A2, c2, rfl, hc2⟩ := own_form hown2
                   have hz3 : w.heap.size + 1 + 1 < w2.heap.size := Nat.lt_of_lt_of_le hz2 (Nat.le_trans (by simp) hg2.size)
                   have hb2 := ((HB.out.2.2.2.1.alloc (Obj.cells #[.slice none 0 0] 58)).grown hg2 (fun e => own_blk_ne (HB.out.2.2.2.2.alloc (Obj.cells #[.slice none 0 0] 58)) (HB.out.2.2.2.1.alloc (Obj.cells #[.slice none 0 0] 58)) (by decide) e.symm))
                   have hfz := hb2.frozen 5
                   have hpz := hb2.cell 5
                   clear hb2
                   have HG2 := Lib.hid (And.intro hown2 hg2)
                   clear hown2 hg2 hat2)
      go_roundw
      case rel =>
        have hO := HB.out.2.2.2.2.alloc (Obj.cells #[.slice none 0 0] 58)
        have e0 := (HB.out.2.1.alloc (Obj.cells #[.slice none 0 0] 58)).grown HG2.out.2 (fun e => own_blk_ne hO (HB.out.2.1.alloc _) (by decide) e.symm)
        have e1 := (HB.out.2.2.1.alloc (Obj.cells #[.slice none 0 0] 58)).grown HG2.out.2 (fun e => own_blk_ne hO (HB.out.2.2.1.alloc _) (by decide) e.symm)
        have e2 := (HB.out.2.2.2.1.alloc (Obj.cells #[.slice none 0 0] 58)).grown HG2.out.2 (fun e => own_blk_ne hO (HB.out.2.2.2.1.alloc _) (by decide) e.symm)
        refine ⟨k + 1, .slice A2 (k + 1) c2, by go_num, by omega, ?_, e0.far (by dsimp only; omega) _, e1.far (by dsimp only; omega) _, e2.set_ 5 _, ?_⟩
        · refine Below.setCell (Below.grown (HB.out.1.alloc HB.out.1.size _) HG2.out.2 (by have := HB.out.1.size; simp; omega) ?_) (by dsimp only; omega) _
          intro q hq; exact (HB.out.2.2.2.2.lt q hq).1
        · have h5 := HG2.out.1.kept (grown_setCell w2 (w.heap.size + 1 + 1) 5 (.slice A2 (k + 1) c2)) (.inr (own_blk_ne HG2.out.1 e2 (by decide)))
          rw [List.replicate_succ']
          exact h5
      case measure => simp only [intOf]; omega
    · have hkr : (k : Int) = rt % 3 + 1 := by omega
      have HK := Lib.hid hkr
      clear hkr
      go_wp2_with fail
      refine bodyPost_ret (v := .agg #[.int .i64 4, .int .i64 32, .int .i64 cp, .int .i64 np, .int .u64 st, .slice A k c]) ?_ rfl ?_
      · simp only [results, Tryd.results57]
        go_simp
      · have hkn : k = (rt % 3 + 1).toNat := by have := HK.out; omega
        subst hkn
        refine ⟨A, c, rfl, ?_, hc, ?_⟩
        · have hU := upAt_nils HB.out.2.2.2.2
          refine UpAt.mono (hU.keeps (w' := _) ?_) ?_
          · repeat (with_reducible first | exact Keeps.refl _ _ | refine Keeps.drew ?_ | refine Keeps.setCell ?_ ?_ _ | refine Keeps.alloc ?_ ?_ _)
            all_goals (intro hh; have h9 := hh.2.2; exact own_blk_ne HB.out.2.2.2.2 HB.out.2.2.1 (by decide) h9)
          · intro b hb; exact ⟨hb.1, by simpa using hb.2.1⟩
        · have hw2 := HB.out.1
          repeat (with_reducible first | exact hw2 | refine Below.drew ?_ | refine Below.setCell ?_ ?_ _ | refine Below.alloc ?_ ?_ _)
          all_goals (simp; try omega)
set_option maxRecDepth 100000 in
theorem conf22_true (lg pr rt st : Int) (hl : 0 ≤ lg ∧ lg ≤ 255) (hp : 0 ≤ pr ∧ pr ≤ 255) (hr : 0 ≤ rt ∧ rt ≤ 255) (w : World) :
    Calls Tryd.prog 57 #[.agg #[.bool true, .int .u8 lg, .int .u8 pr, .int .u8 rt, .int .u64 st]] w (CaseEnd 4 64 (capC lg) (1 + pr % 4) st rt w) := by
  obtain ⟨i0, hi, hz0, hz1, hz2⟩ := info_parts caseinf
  have HI := Lib.hid (And.intro hi (And.intro hz0 (And.intro hz1 hz2)))
  clear hi hz0 hz1 hz2
  have hcp : wrap64 (2 * 2 ^ (lg % 4).toNat) = capC lg := capC_w hl
  generalize capC lg = cp at *
  have HCP := Lib.hid hcp
  obtain ⟨np, hnp⟩ : ∃ np : Int, np = 1 + pr % 4 := ⟨_, rfl⟩
  rw [← hnp]
  have HPW := Lib.hid hnp
  clear hnp
  have h3 : 0 ≤ rt % 3 ∧ rt % 3 ≤ 2 := by omega
  clear hcp
  go_enter Tryd.func57, Tryd.ntmps57
  go_wp2_with fail
  rw [HCP.out, ← HPW.out]
  have B0 : Blk (((w.alloc (.cells #[.bool true, .int .u8 lg, .int .u8 pr, .int .u8 rt, .int .u64 st] 97)).alloc (.cells #[.int .i64 0, .int .i64 0, .int .i64 0, .int .i64 0, .int .u64 0, .slice none 0 0] 25)).alloc (.cells #[.int .i64 4, .int .i64 64, .int .i64 cp, .int .i64 np, .int .u64 st, .slice none 0 0] 25)) w.heap.size 97 #[.bool true, .int .u8 lg, .int .u8 pr, .int .u8 rt, .int .u64 st] := ((Blk.new w _ _).alloc _).alloc _
  have B1 : Blk (((w.alloc (.cells #[.bool true, .int .u8 lg, .int .u8 pr, .int .u8 rt, .int .u64 st] 97)).alloc (.cells #[.int .i64 0, .int .i64 0, .int .i64 0, .int .i64 0, .int .u64 0, .slice none 0 0] 25)).alloc (.cells #[.int .i64 4, .int .i64 64, .int .i64 cp, .int .i64 np, .int .u64 st, .slice none 0 0] 25)) (w.heap.size + 1) 25 #[.int .i64 0, .int .i64 0, .int .i64 0, .int .i64 0, .int .u64 0, .slice none 0 0] := (Blk.snd w _ _ _).alloc _
  have B2 : Blk (((w.alloc (.cells #[.bool true, .int .u8 lg, .int .u8 pr, .int .u8 rt, .int .u64 st] 97)).alloc (.cells #[.int .i64 0, .int .i64 0, .int .i64 0, .int .i64 0, .int .u64 0, .slice none 0 0] 25)).alloc (.cells #[.int .i64 4, .int .i64 64, .int .i64 cp, .int .i64 np, .int .u64 st, .slice none 0 0] 25)) (w.heap.size + 1 + 1) 25 #[.int .i64 4, .int .i64 64, .int .i64 cp, .int .i64 np, .int .u64 st, .slice none 0 0] := Blk.thd w _ _ _ _
  have hbe := (((Below.refl w.heap.size w).alloc (Nat.le_refl _) (.cells #[.bool true, .int .u8 lg, .int .u8 pr, .int .u8 rt, .int .u64 st] 97)).alloc (by simp) (.cells #[.int .i64 0, .int .i64 0, .int .i64 0, .int .i64 0, .int .u64 0, .slice none 0 0] 25)).alloc (by simp; omega) (.cells #[.int .i64 4, .int .i64 64, .int .i64 cp, .int .i64 np, .int .u64 st, .slice none 0 0] 25)
  have HS := Lib.hid (And.intro hbe (And.intro B0 (And.intro B1 B2)))
  clear B0 B1 B2 hbe
  go_loopw [4] (fun i wr => ∃ (k : Nat) (v : Value), i = .int .i64 k ∧ (k : Int) ≤ rt % 3 + 1 ∧ Below w.heap.size w wr ∧ Blk wr w.heap.size 97 #[.bool true, .int .u8 lg, .int .u8 pr, .int .u8 rt, .int .u64 st] ∧ Blk wr (w.heap.size + 1) 25 #[.int .i64 0, .int .i64 0, .int .i64 0, .int .i64 0, .int .u64 0, .slice none 0 0] ∧ Blk wr (w.heap.size + 1 + 1) 25 #[.int .i64 4, .int .i64 64, .int .i64 cp, .int .i64 np, .int .u64 st, v] ∧ wr.ownsRow w.heap.size 58 1 v k (List.replicate k (.slice none 0 0))) (fun i _ => 3 - (intOf i).toNat)
  case atStart => exact ⟨0, .slice none 0 0, rfl, by omega, HS.out.1, HS.out.2.1, HS.out.2.2.1, HS.out.2.2.2, World.ownsRow_nil _ _ _ _⟩
  case round =>
    obtain ⟨k, v, rfl, hk, hbe, b0, b1, b2, hown⟩ := hrel
    obtain ⟨A, c, rfl, hc⟩ := own_form hown
    have q3 := b0.cell 3
    obtain ⟨p0, p1, p2, p3, p4, p5⟩ := blk_cells6 b2
    obtain ⟨s0, s1, s2, s3, s4, s5⟩ := blk_cells6 b1
    have hz1 := b1.lt
    have hz2 := b2.lt
    have f1 := fun i => Blk.frozen b1 i
    have f2 := fun i => Blk.frozen b2 i
    have HB := Lib.hid (And.intro hbe (And.intro b0 (And.intro b1 (And.intro b2 hown))))
    have hne1 : w.heap.size + 1 ≠ w.heap.size + 1 + 1 := by omega
    have hne2 : w.heap.size + 1 + 1 ≠ w.heap.size + 1 := by omega
    clear hbe b0 b1 b2 hown
    by_cases hlt : (k : Int) ≤ rt % 3
    · go_wp2_with (at_builtin
                   refine wpList_append_own _ rfl (.tmp 29) (.tmp 30) 23 rfl w.heap.size 58 i0 (.slice none 0 0) 1 24 Tryd.underlying23 HI.out.1 HI.out.2.1 HI.out.2.2.1 HI.out.2.2.2 rfl (by decide) (.slice A k c) k _ rfl (HB.out.2.2.2.2.alloc _) ⟨wr.heap.size, 0, none⟩ 1 1 [.slice none 0 0] rfl rfl ?d1 ?d2 ?d3 ?d4 ?d5 ?d6
                   case d1 => exact cell_one_new _ _ _
                   case d2 => (intro u hu; simp at hu; subst hu; rfl)
                   case d3 => (simp only [maxLen]; omega)
                   case d4 => omega
                   case d5 => (simp; have := HB.out.1.size; omega)
                   intro v2 w2 hown2 hg2 hat2
                   obtain ⟨A2, c2, rfl, hc2⟩ := own_form hown2
                   have hz3 : w.heap.size + 1 + 1 < w2.heap.size := Nat.lt_of_lt_of_le hz2 (Nat.le_trans (by simp) hg2.size)
                   have hb2 := ((HB.out.2.2.2.1.alloc (Obj.cells #[.slice none 0 0] 58)).grown hg2 (fun e => own_blk_ne (HB.out.2.2.2.2.alloc (Obj.cells #[.slice none 0 0] 58)) (HB.out.2.2.2.1.alloc (Obj.cells #[.slice none 0 0] 58)) (by decide) e.symm))
                   have hfz := hb2.frozen 5
                   have hpz := hb2.cell 5
                   clear hb2
                   have HG2 := Lib.hid (And.intro hown2 hg2)
                   clear hown2 hg2 hat2)
      go_roundw
      case rel =>
        have hO := HB.out.2.2.2.2.alloc (Obj.cells #[.slice none 0 0] 58)
        have e0 := (HB.out.2.1.alloc (Obj.cells #[.slice none 0 0] 58)).grown HG2.out.2 (fun e => own_blk_ne hO (HB.out.2.1.alloc _) (by decide) e.symm)
        have e1 := (HB.out.2.2.1.alloc (Obj.cells #[.slice none 0 0] 58)).grown HG2.out.2 (fun e => own_blk_ne hO (HB.out.2.2.1.alloc _) (by decide) e.symm)
        have e2 := (HB.out.2.2.2.1.alloc (Obj.cells #[.slice none 0 0] 58)).grown HG2.out.2 (fun e => own_blk_ne hO (HB.out.2.2.2.1.alloc _) (by decide) e.symm)
        refine ⟨k + 1, .slice A2 (k + 1) c2, by go_num, by omega, ?_, e0.far (by dsimp only; omega) _, e1.far (by dsimp only; omega) _, e2.set_ 5 _, ?_⟩
        · refine Below.setCell (Below.grown (HB.out.1.alloc HB.out.1.size _) HG2.out.2 (by have := HB.out.1.size; simp; omega) ?_) (by dsimp only; omega) _
          intro q hq; exact (HB.out.2.2.2.2.lt q hq).1
        · have h5 := HG2.out.1.kept (grown_setCell w2 (w.heap.size + 1 + 1) 5 (.slice A2 (k + 1) c2)) (.inr (own_blk_ne HG2.out.1 e2 (by decide)))
          rw [List.replicate_succ']
          exact h5
      case measure => simp only [intOf]; omega
    · have hkr : (k : Int) = rt % 3 + 1 := by omega
      have HK := Lib.hid hkr
      clear hkr
      go_wp2_with fail
      refine bodyPost_ret (v := .agg #[.int .i64 4, .int .i64 64, .int .i64 cp, .int .i64 np, .int .u64 st, .slice A k c]) ?_ rfl ?_
      · simp only [results, Tryd.results57]
        go_simp
      · have hkn : k = (rt % 3 + 1).toNat := by have := HK.out; omega
        subst hkn
        refine ⟨A, c, rfl, ?_, hc, ?_⟩
        · have hU := upAt_nils HB.out.2.2.2.2
          refine UpAt.mono (hU.keeps (w' := _) ?_) ?_
          · repeat (with_reducible first | exact Keeps.refl _ _ | refine Keeps.drew ?_ | refine Keeps.setCell ?_ ?_ _ | refine Keeps.alloc ?_ ?_ _)
            all_goals (intro hh; have h9 := hh.2.2; exact own_blk_ne HB.out.2.2.2.2 HB.out.2.2.1 (by decide) h9)
          · intro b hb; exact ⟨hb.1, by simpa using hb.2.1⟩
        · have hw2 := HB.out.1
          repeat (with_reducible first | exact hw2 | refine Below.drew ?_ | refine Below.setCell ?_ ?_ _ | refine Below.alloc ?_ ?_ _)
          all_goals (simp; try omega)
end Go.Proofs.YtnkmlopjinihiaaDoor
