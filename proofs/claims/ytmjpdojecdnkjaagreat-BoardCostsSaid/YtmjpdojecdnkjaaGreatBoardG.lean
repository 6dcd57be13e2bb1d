/- Contracts of board's Get, Set, Data. -/
import Derived.Test.YtmjpdojecdnkjaaGreatBoard2
namespace Go.Proofs.YtmjpdojecdnkjaaGreat
open Go.RowKit
set_option linter.unusedVariables false
set_option linter.unusedSimpArgs false
set_option maxHeartbeats 2000000

section
variable (w : World) (γ : Nat → Nat) (id p : Nat) (b : BS) (h : BoardAt 134 31 110 .u32 w γ id p b)
include h
end
section
variable (w : World) (γ : Nat → Nat) (id p : Nat) (b : BS) (h : BoardAt 97 22 110 .u64 w γ id p b)
include h
theorem bGet64 {M : Int} (hok : b.Ok M) (hlen : b.log.length ≤ 1000000) (t s : Int) :
    Calls Tryz.prog 58 #[.pointer (some ⟨p, 0, none⟩), .int .i64 t, .int .i64 s] w (MutEnd 97 22 110 .u64 w γ id p (.int .i64 (b.get t s).1) (b.get t s).2) := by
  have HS := Lib.hid (bslot64 w γ id p b h s)
  unfold BS.get
  by_cases hs : 0 ≤ s ∧ s < b.data.length
  · rw [if_pos hs]
    rw [decide_eq_true hs] at HS
    have HH := Lib.hid h
    have HL := Lib.hid (fun W => lslotOf b.l hok.bd s W)
    have HN := Lib.hid (fun W (hW : Below w.heap.size w W) => bnote64 W γ id p b (h.below hW) hlen ⟨t, 6, b.l.slot s, u64I (b.datum s), u64I (b.datum s)⟩)
    obtain ⟨n, rfl⟩ : ∃ n : Nat, s = n := ⟨s.toNat, by omega⟩
    have hn : n < b.data.length := by omega
    have hi := hs.2
    obtain ⟨cv, dv, lv, hF⟩ := h
    have hbrd := hF.brd
    obtain ⟨g, cap, rfl, hgl, hgc, _⟩ := row_at hF.dat.1 hn
    rw [show b.data.getD n 0 = b.datum n by simp [BS.datum]] at hgc
    have hvs : b.l.vs = Lay.vs ⟨⟨b.l.c.variant, b.l.c.width, b.l.c.cap, b.l.c.producers, b.l.c.start, b.l.c.ua, b.l.c.un, b.l.c.uc⟩, b.l.cursor, b.l.claim, b.l.ticket, b.l.serving, b.l.next, b.l.marks, b.l.slots, b.l.cells⟩ := rfl
    rw [hvs] at hbrd HL
    unfold Lay.vs at hbrd HL
    obtain ⟨q0, q1, q2, q3, q4, q5, q6, q7, q8, q9, q10, q11, q12, q13, q14, q15, q16⟩ := blk_cells17 hbrd
    show Calls _ _ _ _ (MutEnd _ _ _ _ w γ id p (.int .i64 (b.datum n)) (b.note t 6 (b.l.slot n) (u64I (b.datum n)) (u64I (b.datum n))))
    unfold BS.note
    unfold u64I at HN ⊢
    generalize b.datum (n : Int) = d at *
    have hpl := hbrd.lt
    clear hF hs hn hok hlen hbrd q14 q16
    go_enter Tryz.func58, Tryz.ntmps58
    go_wp2_with (first
      | (go_at_call 124; refine HS.out.mono ?_; rintro e w' ⟨rfl, rfl⟩)
      | (go_at_call 126; refine (HL.out _).mono ?_; rintro e w1 ⟨rfl, hb1⟩; have HB1 := Lib.hid hb1; clear hb1)
      | (go_at_call 125; refine (HN.out _ HB1.out).mono ?_; rintro e w2 ⟨rfl, γ', hB2, hfr⟩; have HB2 := Lib.hid (And.intro hB2 hfr); clear hB2 hfr))
    go_ret
    exact ⟨rfl, γ', HB2.out.1, (Fr.of_below HB1.out _ _).trans HB2.out.2⟩
  · rw [if_neg hs]
    rw [decide_eq_false hs] at HS
    have HH := Lib.hid h
    clear h hs hok hlen
    go_enter Tryz.func58, Tryz.ntmps58
    go_wp2_with (go_at_call 124; refine HS.out.mono ?_; rintro e w' ⟨rfl, rfl⟩)
    go_ret
    exact ⟨rfl, γ, HH.out, Fr.refl _ _ _⟩
theorem bSet64 {M : Int} (hok : b.Ok M) (hlen : b.log.length ≤ 1000000) (t s v : Int) :
    Calls Tryz.prog 59 #[.pointer (some ⟨p, 0, none⟩), .int .i64 t, .int .i64 s, .int .i64 v] w (MutEnd 97 22 110 .u64 w γ id p (.tuple #[]) (b.put t s v)) := by
  have HS := Lib.hid (bslot64 w γ id p b h s)
  unfold BS.put
  by_cases hs : 0 ≤ s ∧ s < b.data.length
  · rw [if_pos hs]
    rw [decide_eq_true hs] at HS
    have HH := Lib.hid h
    have HL := Lib.hid (fun W => lslotOf b.l hok.bd s W)
    have HN := Lib.hid (fun W (hW : Below w.heap.size w W) => bnote64 W γ id p b (h.below hW) hlen ⟨t, 7, b.l.slot s, u64I (b.datum s), u64I v⟩)
    obtain ⟨n, rfl⟩ : ∃ n : Nat, s = n := ⟨s.toNat, by omega⟩
    have hn : n < b.data.length := by omega
    have hi := hs.2
    have HNN := Lib.hid hn
    obtain ⟨cv, dv, lv, hF⟩ := h
    have hbrd := hF.brd
    obtain ⟨g, cap, rfl, hgl, hgc, _⟩ := row_at hF.dat.1 hn
    rw [show b.data.getD n 0 = b.datum n by simp [BS.datum]] at hgc
    have hvs : b.l.vs = Lay.vs ⟨⟨b.l.c.variant, b.l.c.width, b.l.c.cap, b.l.c.producers, b.l.c.start, b.l.c.ua, b.l.c.un, b.l.c.uc⟩, b.l.cursor, b.l.claim, b.l.ticket, b.l.serving, b.l.next, b.l.marks, b.l.slots, b.l.cells⟩ := rfl
    rw [hvs] at hbrd HL
    unfold Lay.vs at hbrd HL
    obtain ⟨q0, q1, q2, q3, q4, q5, q6, q7, q8, q9, q10, q11, q12, q13, q14, q15, q16⟩ := blk_cells17 hbrd
    unfold u64I at HN ⊢
    rw [show (n : Int).toNat = n by omega]
    generalize b.datum (n : Int) = d at *
    have hpl := hbrd.lt
    have HBRD := Lib.hid hbrd
    have hy1 : IntKind.u64.wrap d = d % 18446744073709551616 := by simp [IntKind.wrap, IntKind.bits, IntKind.signed]
    have hy2 : IntKind.u64.wrap v = v % 18446744073709551616 := by simp [IntKind.wrap, IntKind.bits, IntKind.signed]
    clear hF hs hn hok hlen hbrd q14 q16
    go_enter Tryz.func59, Tryz.ntmps59
    go_wp2_with (first
      | (go_at_call 124; refine HS.out.mono ?_; rintro e w' ⟨rfl, rfl⟩))
    go_region_with (first
      | (go_at_call 126; refine (HL.out _).mono ?_; rintro e w1 ⟨rfl, hb1⟩; have HB1 := Lib.hid ((by repeat (with_reducible first | exact Below.refl _ _ | refine Below.drew ?_ | refine below_drewN ?_ _) : Below w.heap.size w _).trans (hb1.mono (by simp))); obtain ⟨r0, r1, r2, r3, r4, r5, r6, r7, r8, r9, r10, r11, r12, r13, r14, r15, r16⟩ := blk_cells17 (HBRD.out.below HB1.out hpl); have rg := (HB1.out.cell (p := ⟨g, n, none⟩) hgl).trans hgc; clear r14 r16 hb1)
      | (go_at_call 125; refine (HN.out _ (by repeat (with_reducible first | exact HB1.out | refine Below.drew ?_ | refine below_drewN ?_ _))).mono ?_; rintro e w2 ⟨rfl, γ', ⟨cv2, dv2, lv2, hF2⟩, hfr⟩
         have hq2 : w2.cell? ⟨p, 15, none⟩ = some dv2 := hF2.brd.cell 15
         obtain ⟨g2, cap2, rfl, hgl2, hgc2, hgf2⟩ := row_at hF2.dat.1 HNN.out
         have HF2 := Lib.hid hF2
         have HFR := Lib.hid ((Fr.of_below (by repeat (with_reducible first | exact HB1.out | refine Below.drew ?_ | refine below_drewN ?_ _)) _ _).trans hfr)
         clear hF2 hfr))
    all_goals go_wp2_with fail
    all_goals (first | go_end0 | refine bodyPost_ret (results_none rfl _ _ _) rfl ?_)
    all_goals (have hl := HF2.out.put (by decide) (by decide) (by decide) n v)
    all_goals exact ⟨rfl, γ', hl.1.at_, HFR.out.trans hl.2⟩
  · rw [if_neg hs]
    rw [decide_eq_false hs] at HS
    have HH := Lib.hid h
    clear h hs hok hlen
    go_enter Tryz.func59, Tryz.ntmps59
    go_wp2_with (go_at_call 124; refine HS.out.mono ?_; rintro e w' ⟨rfl, rfl⟩)
    first | go_end0 | refine bodyPost_ret (results_none rfl _ _ _) rfl ?_
    exact ⟨rfl, γ, HH.out, Fr.refl _ _ _⟩
end
end Go.Proofs.YtmjpdojecdnkjaaGreat
