/- Contracts of the board's methods, for both widths. -/
import Derived.Test.YtnkmlopjinihiaaDoorBoardM
import Derived.Test.YtnkmlopjinihiaaDoorLay
import Derived.Test.YtnkmlopjinihiaaDoorWide
import Derived.RegionTactic
import Derived.BigRegion
import Derived.Deep.RegionLaw
namespace Go.Proofs.YtnkmlopjinihiaaDoor
open Go.RowKit
set_option linter.unusedVariables false
set_option linter.unusedSimpArgs false
set_option maxHeartbeats 2000000

theorem acc_info : (Tryd.prog.info? 208).map (fun i => (i.zero, i.size, i.bytes)) = some (some (.agg #[.int .i64 0, .int .i64 0, .int .i64 0, .int .u64 0, .int .u64 0]), 5, 40) := by kernel_rfl
theorem news_acc (w : World) (a : Acc) : ∀ j u, a.vs[j]? = some u → (w.alloc (.cells #[.int .i64 a.thread, .int .i64 a.kind, .int .i64 a.cell, .int .u64 a.old, .int .u64 a.new] 208)).cell? ((⟨w.heap.size, 0, none⟩ : Addr).add j) = some u :=
  World.news_of_block (heap_alloc_new w (.cells #[.int .i64 a.thread, .int .i64 a.kind, .int .i64 a.cell, .int .u64 a.old, .int .u64 a.new] 208))
theorem one_acc (a : Acc) : ∀ u ∈ a.vs, u.oneCell' = true := by intro u hu; simp only [Acc.vs, List.mem_cons, List.not_mem_nil, or_false] at hu; rcases hu with rfl | rfl | rfl | rfl | rfl <;> rfl
theorem bnote32 (w : World) (γ : Nat → Nat) (id p : Nat) (b : BS) (h : BoardAt 132 48 208 .u32 w γ id p b) (hlen : b.log.length ≤ 1000000) (a : Acc) :
    Calls Tryd.prog 162 #[.pointer (some ⟨p, 0, none⟩), .int .i64 a.thread, .int .i64 a.kind, .int .i64 a.cell, .int .u64 a.old, .int .u64 a.new] w
      (MutEnd 132 48 208 .u32 w γ id p (.tuple #[]) { b with log := b.log ++ [a] }) := by
  obtain ⟨cv, dv, lv, hF⟩ := h
  obtain ⟨i0, hinf⟩ := info_parts acc_info
  have HI := Lib.hid hinf
  clear hinf
  obtain ⟨A1, c1, rfl, hc1⟩ := own_form hF.log.1
  have hbrd := hF.brd
  have hfr := hbrd.frozen 16
  have HK := Lib.hid (show b.log.length + 1 ≤ maxLen ∧ (b.log.length + 1) * 40 ≤ 140737488355328 from ⟨by unfold maxLen; omega, by omega⟩)
  clear hlen
  obtain ⟨t, kind, cell, old, new⟩ := a
  obtain ⟨l, cells, data, log⟩ := b
  obtain ⟨⟨variant, width, cap, producers, start, ua, un, uc⟩, cursor, claim, ticket, serving, next, marks, slots, cells'⟩ := l
  simp only at *
  have hq : w.cell? ⟨p, 16, none⟩ = some (.slice A1 log.length c1) := hbrd.cell 16
  have hpl := hbrd.lt
  have HF := Lib.hid hF
  clear hF hbrd
  go_enter Tryd.func162, Tryd.ntmps162
  go_wp2_with (first
    | (at_builtin
       refine wpList_append_lies _ rfl (.tmp 16) (.tmp 23) 55 rfl 0 208 i0 _ 5 40 Tryd.underlying55 HI.out.1 HI.out.2.1 HI.out.2.2.1 HI.out.2.2.2 rfl (by decide) (.slice A1 log.length c1) log.length _ rfl (HF.out.log.1.alloc _) ⟨w.heap.size, 0, none⟩ 1 1 (Acc.vs ⟨t, kind, cell, old, new⟩) rfl rfl (news_acc _ _) (one_acc _) (by decide) HK.out.1 HK.out.2 (Nat.zero_le _) _ rfl ?_
       intro g cc w2 hown hgrow hat hlt2
       have hnt := HF.out.brd.noted (by decide) (HF.out.log.1.alloc _) hgrow 16
       have HOWN := Lib.hid hown
       have HGR := Lib.hid hgrow
       have HAT := Lib.hid hat
       clear hown hgrow hat hlt2))
  first | go_end0 | refine bodyPost_ret (results_none rfl _ _ _) rfl ?_
  exact ⟨rfl, HF.out.noted (a := ⟨t, kind, cell, old, new⟩) (by decide) (by decide) (by decide) (by decide) (by decide) ((Below.refl _ _).alloc (Nat.le_refl _) _) HGR.out HOWN.out (fun g' hg' => by have e : cc = cc := rfl; have e2 := Option.some.inj hg'; subst e2; exact HAT.out)⟩
theorem bis32 (w : World) (γ : Nat → Nat) (id p : Nat) (b : BS) (h : BoardAt 132 48 208 .u32 w γ id p b) (k kind : Int) :
    Calls Tryd.prog 98 #[.pointer (some ⟨p, 0, none⟩), .int .i64 k, .int .i64 kind] w fun e w' => e = .returned (.bool (decide (b.l.kind k = kind))) ∧ Below w.heap.size w w' := by
  obtain ⟨cv, dv, lv, hF⟩ := h
  have hbrd := hF.brd
  have HK := Lib.hid (lkind b.l k)
  obtain ⟨l, cells, data, log⟩ := b
  dsimp only at hbrd HK ⊢
  generalize hkk : l.kind k = kk at *
  clear hkk hF
  obtain ⟨⟨variant, width, cap, producers, start, ua, un, uc⟩, cursor, claim, ticket, serving, next, marks, slots, cells'⟩ := l
  unfold Lay.vs at hbrd HK
  obtain ⟨q0, q1, q2, q3, q4, q5, q6, q7, q8, q9, q10, q11, q12, q13, q14, q15, q16⟩ := blk_cells17 hbrd
  clear q14 q15 q16 hbrd
  go_enter Tryd.func98, Tryd.ntmps98
  go_wp2_with (go_at_call 45; refine (HK.out _).mono ?_; rintro e w1 ⟨rfl, hb1⟩)
  go_ret
  refine ⟨?_, hb1⟩
  first | rfl | exact ret_bool (by simp)
theorem blook32 (w : World) (γ : Nat → Nat) (id p : Nat) (b : BS) (h : BoardAt 132 48 208 .u32 w γ id p b) (hlen : b.log.length ≤ 1000000) (t kind : Int) (k : Nat) (hk : k < b.cells.length) (hin : InM M32 (b.at_ k)) :
    Calls Tryd.prog 166 #[.pointer (some ⟨p, 0, none⟩), .int .i64 t, .int .i64 kind, .int .i64 k] w
      (MutEnd 132 48 208 .u32 w γ id p (.int .u32 (b.at_ k)) (b.look t kind k)) := by
  obtain ⟨cv, dv, lv, hF⟩ := h
  have hbrd := hF.brd
  have hq : w.cell? ⟨p, 14, none⟩ = some cv := hbrd.cell 14
  obtain ⟨g, cap, rfl, hgl, hgc, _⟩ := row_at hF.cel.1 hk
  have hx : b.cells.getD k 0 = b.at_ k := by simp [BS.at_]
  rw [hx] at hgc
  have HN := Lib.hid (fun n => bnote32 (w.drewN n) γ id p b (hF.at_.drewN n) hlen ⟨t, kind, k, b.at_ k, b.at_ k⟩)
  have HIN := Lib.hid hin
  have hkl : (k : Int) < b.cells.length := by omega
  clear hF hbrd hlen hin hx
  go_enter Tryd.func166, Tryd.ntmps166
  go_wp2_with (first
    | (go_at_call 103; refine (up32 (b.at_ k) HIN.out _).mono ?_; rintro e w' ⟨rfl, rfl⟩)
    | (go_at_call 162; refine (HN.out 0).mono ?_; rintro e w2 ⟨rfl, γ', hB, hfr⟩; have HB := Lib.hid hB; have HFR := Lib.hid hfr; clear hB hfr))
  go_ret
  exact ⟨rfl, γ', HB.out, HFR.out⟩
theorem blay32 (w : World) (γ : Nat → Nat) (id p : Nat) (b : BS) (h : BoardAt 132 48 208 .u32 w γ id p b) (hlen : b.log.length ≤ 1000000) (t kind : Int) (k : Nat) (hk : k < b.cells.length) (hin : InM M32 (b.at_ k)) (v : Int) (hv : InM M32 v) :
    Calls Tryd.prog 99 #[.pointer (some ⟨p, 0, none⟩), .int .i64 t, .int .i64 kind, .int .i64 k, .int .u32 v] w
      (MutEnd 132 48 208 .u32 w γ id p (.int .u32 (b.at_ k)) (b.lay t kind k v)) := by
  obtain ⟨cv, dv, lv, hF⟩ := h
  have hbrd := hF.brd
  have hq : w.cell? ⟨p, 14, none⟩ = some cv := hbrd.cell 14
  obtain ⟨g, cap, rfl, hgl, hgc, _⟩ := row_at hF.cel.1 hk
  have hx : b.cells.getD k 0 = b.at_ k := by simp [BS.at_]
  rw [hx] at hgc
  have HN := Lib.hid (bnote32 w γ id p b hF.at_ hlen ⟨t, kind, k, b.at_ k, v⟩)
  have HIN := Lib.hid hin
  have HV := Lib.hid hv
  have HKN := Lib.hid hk
  have hkl : (k : Int) < b.cells.length := by omega
  clear hF hbrd hlen hin hx hv
  go_enter Tryd.func99, Tryd.ntmps99
  go_wp2_with (first
    | (go_at_call 103; refine (up32 _ (by with_reducible first | exact HIN.out | exact HV.out) _).mono ?_; rintro e w' ⟨rfl, rfl⟩)
    | (go_at_call 162; refine HN.out.mono ?_; rintro e w2 ⟨rfl, γ', ⟨cv2, dv2, lv2, hF2⟩, hfr⟩
       have hbrd2 := hF2.brd
       have hq2 : w2.cell? ⟨p, 14, none⟩ = some cv2 := hbrd2.cell 14
       obtain ⟨g2, cap2, rfl, hgl2, hgc2, hgf2⟩ := row_at hF2.cel.1 HKN.out
       have HF2 := Lib.hid hF2
       have HFR := Lib.hid hfr
       clear hF2 hfr hbrd2))
  go_ret
  have hl := HF2.out.laid (by decide) (by decide) (by decide) k v
  refine ⟨rfl, γ', ?_, HFR.out.trans hl.2⟩
  simpa [BS.lay] using hl.1.at_
theorem bLoad32 (w : World) (γ : Nat → Nat) (id p : Nat) (b : BS) (h : BoardAt 132 48 208 .u32 w γ id p b) (hok : b.Ok M32) (hlen : b.log.length ≤ 1000000) (t k : Int) :
    Calls Tryd.prog 104 #[.pointer (some ⟨p, 0, none⟩), .int .i64 t, .int .i64 k] w
      (MutEnd 132 48 208 .u32 w γ id p (.int .u32 (b.load t k).1) (b.load t k).2) := by
  have HIS := Lib.hid (bis32 w γ id p b h k 1)
  have H := Lib.hid h
  unfold BS.load
  by_cases hk : b.l.kind k = 1
  · obtain ⟨n, rfl, hn, hin⟩ := hok.cell (.inl hk)
    have HL := Lib.hid (fun w1 hB => blook32 w1 γ id p b hB hlen t 1 n hn hin)
    rw [if_pos hk]
    rw [show decide (b.l.kind (n : Int) = 1) = true from decide_eq_true hk] at HIS
    clear hok hlen hn hin hk h
    go_enter Tryd.func104, Tryd.ntmps104
    go_wp2_with (first
      | (go_at_call 98; refine HIS.out.mono ?_; rintro e w1 ⟨rfl, hb1⟩; have HB1 := Lib.hid hb1; clear hb1)
      | (go_at_call 166; refine (HL.out _ (H.out.below HB1.out)).mono ?_; rintro e w2 ⟨rfl, γ', hB, hfr⟩; have HB := Lib.hid hB; have HFR := Lib.hid hfr; clear hB hfr))
    go_ret
    exact MutEnd.from_ HB1.out ⟨rfl, γ', HB.out, HFR.out⟩
  · rw [if_neg hk]
    rw [show decide (b.l.kind k = 1) = false from decide_eq_false hk] at HIS
    clear hok hlen hk h
    go_enter Tryd.func104, Tryd.ntmps104
    go_wp2_with (go_at_call 98; refine HIS.out.mono ?_; rintro e w1 ⟨rfl, hb1⟩; have HB1 := Lib.hid hb1; clear hb1)
    go_ret
    exact MutEnd.of_below H.out HB1.out
theorem bRead32 (w : World) (γ : Nat → Nat) (id p : Nat) (b : BS) (h : BoardAt 132 48 208 .u32 w γ id p b) (hok : b.Ok M32) (hlen : b.log.length ≤ 1000000) (t k : Int) :
    Calls Tryd.prog 148 #[.pointer (some ⟨p, 0, none⟩), .int .i64 t, .int .i64 k] w
      (MutEnd 132 48 208 .u32 w γ id p (.int .u32 (b.read t k).1) (b.read t k).2) := by
  have HIS := Lib.hid (bis32 w γ id p b h k 2)
  have H := Lib.hid h
  unfold BS.read
  by_cases hk : b.l.kind k = 2
  · obtain ⟨n, rfl, hn, hin⟩ := hok.cell (.inr hk)
    have HL := Lib.hid (fun w1 hB => blook32 w1 γ id p b hB hlen t 6 n hn hin)
    rw [if_pos hk]
    rw [show decide (b.l.kind (n : Int) = 2) = true from decide_eq_true hk] at HIS
    clear hok hlen hn hin hk h
    go_enter Tryd.func148, Tryd.ntmps148
    go_wp2_with (first
      | (go_at_call 98; refine HIS.out.mono ?_; rintro e w1 ⟨rfl, hb1⟩; have HB1 := Lib.hid hb1; clear hb1)
      | (go_at_call 166; refine (HL.out _ (H.out.below HB1.out)).mono ?_; rintro e w2 ⟨rfl, γ', hB, hfr⟩; have HB := Lib.hid hB; have HFR := Lib.hid hfr; clear hB hfr))
    go_ret
    exact MutEnd.from_ HB1.out ⟨rfl, γ', HB.out, HFR.out⟩
  · rw [if_neg hk]
    rw [show decide (b.l.kind k = 2) = false from decide_eq_false hk] at HIS
    clear hok hlen hk h
    go_enter Tryd.func148, Tryd.ntmps148
    go_wp2_with (go_at_call 98; refine HIS.out.mono ?_; rintro e w1 ⟨rfl, hb1⟩; have HB1 := Lib.hid hb1; clear hb1)
    go_ret
    exact MutEnd.of_below H.out HB1.out
theorem bStore32 (w : World) (γ : Nat → Nat) (id p : Nat) (b : BS) (h : BoardAt 132 48 208 .u32 w γ id p b) (hok : b.Ok M32) (hlen : b.log.length ≤ 1000000) (t k : Int) (v : Int) (hv : InM M32 v) :
    Calls Tryd.prog 31 #[.pointer (some ⟨p, 0, none⟩), .int .i64 t, .int .i64 k, .int .u32 v] w
      (MutEnd 132 48 208 .u32 w γ id p (.tuple #[]) (b.store t k v)) := by
  have HIS := Lib.hid (bis32 w γ id p b h k 1)
  have H := Lib.hid h
  unfold BS.store
  by_cases hk : b.l.kind k = 1
  · obtain ⟨n, rfl, hn, hin⟩ := hok.cell (.inl hk)
    have HL := Lib.hid (fun w1 hB => blay32 w1 γ id p b hB hlen t 2 n hn hin v hv)
    rw [if_pos hk]
    rw [show decide (b.l.kind (n : Int) = 1) = true from decide_eq_true hk] at HIS
    clear hok hlen hn hin hk h hv
    go_enter Tryd.func31, Tryd.ntmps31
    go_wp2_with (first
      | (go_at_call 98; refine HIS.out.mono ?_; rintro e w1 ⟨rfl, hb1⟩; have HB1 := Lib.hid hb1; clear hb1)
      | (go_at_call 99; refine (HL.out _ (H.out.below HB1.out)).mono ?_; rintro e w2 ⟨rfl, γ', hB, hfr⟩; have HB := Lib.hid hB; have HFR := Lib.hid hfr; clear hB hfr))
    first | go_end0 | refine bodyPost_ret (results_none rfl _ _ _) rfl ?_
    exact MutEnd.from_ HB1.out ⟨rfl, γ', HB.out, HFR.out⟩
  · rw [if_neg hk]
    rw [show decide (b.l.kind k = 1) = false from decide_eq_false hk] at HIS
    clear hok hlen hk h hv
    go_enter Tryd.func31, Tryd.ntmps31
    go_wp2_with (go_at_call 98; refine HIS.out.mono ?_; rintro e w1 ⟨rfl, hb1⟩; have HB1 := Lib.hid hb1; clear hb1)
    first | go_end0 | refine bodyPost_ret (results_none rfl _ _ _) rfl ?_
    exact MutEnd.of_below H.out HB1.out
theorem bWrite32 (w : World) (γ : Nat → Nat) (id p : Nat) (b : BS) (h : BoardAt 132 48 208 .u32 w γ id p b) (hok : b.Ok M32) (hlen : b.log.length ≤ 1000000) (t k : Int) (v : Int) (hv : InM M32 v) :
    Calls Tryd.prog 150 #[.pointer (some ⟨p, 0, none⟩), .int .i64 t, .int .i64 k, .int .u32 v] w
      (MutEnd 132 48 208 .u32 w γ id p (.tuple #[]) (b.write t k v)) := by
  have HIS := Lib.hid (bis32 w γ id p b h k 2)
  have H := Lib.hid h
  unfold BS.write
  by_cases hk : b.l.kind k = 2
  · obtain ⟨n, rfl, hn, hin⟩ := hok.cell (.inr hk)
    have HL := Lib.hid (fun w1 hB => blay32 w1 γ id p b hB hlen t 7 n hn hin v hv)
    rw [if_pos hk]
    rw [show decide (b.l.kind (n : Int) = 2) = true from decide_eq_true hk] at HIS
    clear hok hlen hn hin hk h hv
    go_enter Tryd.func150, Tryd.ntmps150
    go_wp2_with (first
      | (go_at_call 98; refine HIS.out.mono ?_; rintro e w1 ⟨rfl, hb1⟩; have HB1 := Lib.hid hb1; clear hb1)
      | (go_at_call 99; refine (HL.out _ (H.out.below HB1.out)).mono ?_; rintro e w2 ⟨rfl, γ', hB, hfr⟩; have HB := Lib.hid hB; have HFR := Lib.hid hfr; clear hB hfr))
    first | go_end0 | refine bodyPost_ret (results_none rfl _ _ _) rfl ?_
    exact MutEnd.from_ HB1.out ⟨rfl, γ', HB.out, HFR.out⟩
  · rw [if_neg hk]
    rw [show decide (b.l.kind k = 2) = false from decide_eq_false hk] at HIS
    clear hok hlen hk h hv
    go_enter Tryd.func150, Tryd.ntmps150
    go_wp2_with (go_at_call 98; refine HIS.out.mono ?_; rintro e w1 ⟨rfl, hb1⟩; have HB1 := Lib.hid hb1; clear hb1)
    first | go_end0 | refine bodyPost_ret (results_none rfl _ _ _) rfl ?_
    exact MutEnd.of_below H.out HB1.out
theorem bAdd32 (w : World) (γ : Nat → Nat) (id p : Nat) (b : BS) (h : BoardAt 132 48 208 .u32 w γ id p b) (hok : b.Ok M32) (hlen : b.log.length ≤ 1000000) (t k m : Int) :
    Calls Tryd.prog 140 #[.pointer (some ⟨p, 0, none⟩), .int .i64 t, .int .i64 k, .int .i64 m] w
      (MutEnd 132 48 208 .u32 w γ id p (.int .u32 (b.add M32 t k m).1) (b.add M32 t k m).2) := by
  have HIS := Lib.hid (bis32 w γ id p b h k 1)
  have H := Lib.hid h
  unfold BS.add
  by_cases hk : b.l.kind k = 1
  · obtain ⟨n, rfl, hn, hin⟩ := hok.cell (.inl hk)
    have HL := Lib.hid (fun w1 hB => blay32 w1 γ id p b hB hlen t 3 n hn hin (addM M32 (b.at_ n) m) (addM_in32 _ _))
    rw [if_pos hk]
    rw [show decide (b.l.kind (n : Int) = 1) = true from decide_eq_true hk] at HIS
    have hkl : (n : Int) < b.cells.length := by omega
    have HN := Lib.hid hn
    clear hok hlen hn hin hk h
    go_enter Tryd.func140, Tryd.ntmps140
    go_wp2_with (first
      | (go_at_call 98; refine HIS.out.mono ?_; rintro e w1 ⟨rfl, hb1⟩
         obtain ⟨cv, dv, lv, hF⟩ := H.out.below hb1
         have hq : w1.cell? ⟨p, 14, none⟩ = some cv := hF.brd.cell 14
         obtain ⟨g, cap, rfl, hgl, hgc, _⟩ := row_at hF.cel.1 HN.out
         have hx : b.cells.getD n 0 = b.at_ n := by simp [BS.at_]
         rw [hx] at hgc
         have HB1 := Lib.hid hb1; clear hb1 hF hx)
      | (go_at_call 35; refine (add32 _ _ _).mono ?_; rintro e w' ⟨rfl, rfl⟩)
      | (go_at_call 99; refine (HL.out _ (H.out.below HB1.out)).mono ?_; rintro e w2 ⟨rfl, γ', hB, hfr⟩; have HB := Lib.hid hB; have HFR := Lib.hid hfr; clear hB hfr))
    go_ret
    exact MutEnd.from_ HB1.out ⟨rfl, γ', HB.out, HFR.out⟩
  · rw [if_neg hk]
    rw [show decide (b.l.kind k = 1) = false from decide_eq_false hk] at HIS
    clear hok hlen hk h
    go_enter Tryd.func140, Tryd.ntmps140
    go_wp2_with (go_at_call 98; refine HIS.out.mono ?_; rintro e w1 ⟨rfl, hb1⟩; have HB1 := Lib.hid hb1; clear hb1)
    go_ret
    exact MutEnd.of_below H.out HB1.out
theorem bSwap32 (w : World) (γ : Nat → Nat) (id p : Nat) (b : BS) (h : BoardAt 132 48 208 .u32 w γ id p b) (hok : b.Ok M32) (hlen : b.log.length ≤ 1000000) (t k old v : Int) (hv : InM M32 v) :
    Calls Tryd.prog 135 #[.pointer (some ⟨p, 0, none⟩), .int .i64 t, .int .i64 k, .int .u32 old, .int .u32 v] w
      (MutEnd 132 48 208 .u32 w γ id p (.bool (b.swap t k old v).1) (b.swap t k old v).2) := by
  have HIS := Lib.hid (bis32 w γ id p b h k 1)
  have H := Lib.hid h
  unfold BS.swap
  by_cases hk : b.l.kind k = 1
  · obtain ⟨n, rfl, hn, hin⟩ := hok.cell (.inl hk)
    have HL := Lib.hid (fun w1 hB => blay32 w1 γ id p b hB hlen t 4 n hn hin v hv)
    have HM := Lib.hid (fun w1 hB => blook32 w1 γ id p b hB hlen t 5 n hn hin)
    rw [if_pos hk]
    rw [show decide (b.l.kind (n : Int) = 1) = true from decide_eq_true hk] at HIS
    have hkl : (n : Int) < b.cells.length := by omega
    have HN := Lib.hid hn
    clear hok hlen hn hin hk h hv
    by_cases he : b.at_ n = old
    · rw [if_pos he]
      go_enter Tryd.func135, Tryd.ntmps135
      go_wp2_with (first
        | (go_at_call 98; refine HIS.out.mono ?_; rintro e w1 ⟨rfl, hb1⟩
           obtain ⟨cv, dv, lv, hF⟩ := H.out.below hb1
           have hq : w1.cell? ⟨p, 14, none⟩ = some cv := hF.brd.cell 14
           obtain ⟨g, cap, rfl, hgl, hgc, _⟩ := row_at hF.cel.1 HN.out
           have hx : b.cells.getD n 0 = b.at_ n := by simp [BS.at_]
           rw [hx] at hgc
           have HB1 := Lib.hid hb1; clear hb1 hF hx)
        | (go_at_call 99; refine (HL.out _ (H.out.below HB1.out)).mono ?_; rintro e w2 ⟨rfl, γ', hB, hfr⟩; have HB := Lib.hid hB; have HFR := Lib.hid hfr; clear hB hfr))
      go_ret
      exact MutEnd.from_ HB1.out ⟨rfl, γ', HB.out, HFR.out⟩
    · rw [if_neg he]
      go_enter Tryd.func135, Tryd.ntmps135
      go_wp2_with (first
        | (go_at_call 98; refine HIS.out.mono ?_; rintro e w1 ⟨rfl, hb1⟩
           obtain ⟨cv, dv, lv, hF⟩ := H.out.below hb1
           have hq : w1.cell? ⟨p, 14, none⟩ = some cv := hF.brd.cell 14
           obtain ⟨g, cap, rfl, hgl, hgc, _⟩ := row_at hF.cel.1 HN.out
           have hx : b.cells.getD n 0 = b.at_ n := by simp [BS.at_]
           rw [hx] at hgc
           have HB1 := Lib.hid hb1; clear hb1 hF hx)
        | (go_at_call 166; refine (HM.out _ (H.out.below HB1.out)).mono ?_; rintro e w2 ⟨rfl, γ', hB, hfr⟩; have HB := Lib.hid hB; have HFR := Lib.hid hfr; clear hB hfr))
      go_ret
      exact MutEnd.from_ HB1.out ⟨rfl, γ', HB.out, HFR.out⟩
  · rw [if_neg hk]
    rw [show decide (b.l.kind k = 1) = false from decide_eq_false hk] at HIS
    clear hok hlen hk h hv
    go_enter Tryd.func135, Tryd.ntmps135
    go_wp2_with (go_at_call 98; refine HIS.out.mono ?_; rintro e w1 ⟨rfl, hb1⟩; have HB1 := Lib.hid hb1; clear hb1)
    go_ret
    exact MutEnd.of_below H.out HB1.out
theorem bnote64 (w : World) (γ : Nat → Nat) (id p : Nat) (b : BS) (h : BoardAt 142 22 208 .u64 w γ id p b) (hlen : b.log.length ≤ 1000000) (a : Acc) :
    Calls Tryd.prog 181 #[.pointer (some ⟨p, 0, none⟩), .int .i64 a.thread, .int .i64 a.kind, .int .i64 a.cell, .int .u64 a.old, .int .u64 a.new] w
      (MutEnd 142 22 208 .u64 w γ id p (.tuple #[]) { b with log := b.log ++ [a] }) := by
  obtain ⟨cv, dv, lv, hF⟩ := h
  obtain ⟨i0, hinf⟩ := info_parts acc_info
  have HI := Lib.hid hinf
  clear hinf
  obtain ⟨A1, c1, rfl, hc1⟩ := own_form hF.log.1
  have hbrd := hF.brd
  have hfr := hbrd.frozen 16
  have HK := Lib.hid (show b.log.length + 1 ≤ maxLen ∧ (b.log.length + 1) * 40 ≤ 140737488355328 from ⟨by unfold maxLen; omega, by omega⟩)
  clear hlen
  obtain ⟨t, kind, cell, old, new⟩ := a
  obtain ⟨l, cells, data, log⟩ := b
  obtain ⟨⟨variant, width, cap, producers, start, ua, un, uc⟩, cursor, claim, ticket, serving, next, marks, slots, cells'⟩ := l
  simp only at *
  have hq : w.cell? ⟨p, 16, none⟩ = some (.slice A1 log.length c1) := hbrd.cell 16
  have hpl := hbrd.lt
  have HF := Lib.hid hF
  clear hF hbrd
  go_enter Tryd.func181, Tryd.ntmps181
  go_wp2_with (first
    | (at_builtin
       refine wpList_append_lies _ rfl (.tmp 16) (.tmp 23) 55 rfl 0 208 i0 _ 5 40 Tryd.underlying55 HI.out.1 HI.out.2.1 HI.out.2.2.1 HI.out.2.2.2 rfl (by decide) (.slice A1 log.length c1) log.length _ rfl (HF.out.log.1.alloc _) ⟨w.heap.size, 0, none⟩ 1 1 (Acc.vs ⟨t, kind, cell, old, new⟩) rfl rfl (news_acc _ _) (one_acc _) (by decide) HK.out.1 HK.out.2 (Nat.zero_le _) _ rfl ?_
       intro g cc w2 hown hgrow hat hlt2
       have hnt := HF.out.brd.noted (by decide) (HF.out.log.1.alloc _) hgrow 16
       have HOWN := Lib.hid hown
       have HGR := Lib.hid hgrow
       have HAT := Lib.hid hat
       clear hown hgrow hat hlt2))
  first | go_end0 | refine bodyPost_ret (results_none rfl _ _ _) rfl ?_
  exact ⟨rfl, HF.out.noted (a := ⟨t, kind, cell, old, new⟩) (by decide) (by decide) (by decide) (by decide) (by decide) ((Below.refl _ _).alloc (Nat.le_refl _) _) HGR.out HOWN.out (fun g' hg' => by have e : cc = cc := rfl; have e2 := Option.some.inj hg'; subst e2; exact HAT.out)⟩
theorem bis64 (w : World) (γ : Nat → Nat) (id p : Nat) (b : BS) (h : BoardAt 142 22 208 .u64 w γ id p b) (k kind : Int) :
    Calls Tryd.prog 129 #[.pointer (some ⟨p, 0, none⟩), .int .i64 k, .int .i64 kind] w fun e w' => e = .returned (.bool (decide (b.l.kind k = kind))) ∧ Below w.heap.size w w' := by
  obtain ⟨cv, dv, lv, hF⟩ := h
  have hbrd := hF.brd
  have HK := Lib.hid (lkind b.l k)
  obtain ⟨l, cells, data, log⟩ := b
  dsimp only at hbrd HK ⊢
  generalize hkk : l.kind k = kk at *
  clear hkk hF
  obtain ⟨⟨variant, width, cap, producers, start, ua, un, uc⟩, cursor, claim, ticket, serving, next, marks, slots, cells'⟩ := l
  unfold Lay.vs at hbrd HK
  obtain ⟨q0, q1, q2, q3, q4, q5, q6, q7, q8, q9, q10, q11, q12, q13, q14, q15, q16⟩ := blk_cells17 hbrd
  clear q14 q15 q16 hbrd
  go_enter Tryd.func129, Tryd.ntmps129
  go_wp2_with (go_at_call 45; refine (HK.out _).mono ?_; rintro e w1 ⟨rfl, hb1⟩)
  go_ret
  refine ⟨?_, hb1⟩
  first | rfl | exact ret_bool (by simp)
theorem blook64 (w : World) (γ : Nat → Nat) (id p : Nat) (b : BS) (h : BoardAt 142 22 208 .u64 w γ id p b) (hlen : b.log.length ≤ 1000000) (t kind : Int) (k : Nat) (hk : k < b.cells.length) (hin : InM M64 (b.at_ k)) :
    Calls Tryd.prog 168 #[.pointer (some ⟨p, 0, none⟩), .int .i64 t, .int .i64 kind, .int .i64 k] w
      (MutEnd 142 22 208 .u64 w γ id p (.int .u64 (b.at_ k)) (b.look t kind k)) := by
  obtain ⟨cv, dv, lv, hF⟩ := h
  have hbrd := hF.brd
  have hq : w.cell? ⟨p, 14, none⟩ = some cv := hbrd.cell 14
  obtain ⟨g, cap, rfl, hgl, hgc, _⟩ := row_at hF.cel.1 hk
  have hx : b.cells.getD k 0 = b.at_ k := by simp [BS.at_]
  rw [hx] at hgc
  have HN := Lib.hid (fun n => bnote64 (w.drewN n) γ id p b (hF.at_.drewN n) hlen ⟨t, kind, k, b.at_ k, b.at_ k⟩)
  have HIN := Lib.hid hin
  have hkl : (k : Int) < b.cells.length := by omega
  clear hF hbrd hlen hin hx
  go_enter Tryd.func168, Tryd.ntmps168
  go_wp2_with (first
    | (go_at_call 128; refine (up64 (b.at_ k) HIN.out _).mono ?_; rintro e w' ⟨rfl, rfl⟩)
    | (go_at_call 181; refine (HN.out 0).mono ?_; rintro e w2 ⟨rfl, γ', hB, hfr⟩; have HB := Lib.hid hB; have HFR := Lib.hid hfr; clear hB hfr))
  go_ret
  exact ⟨rfl, γ', HB.out, HFR.out⟩
theorem blay64 (w : World) (γ : Nat → Nat) (id p : Nat) (b : BS) (h : BoardAt 142 22 208 .u64 w γ id p b) (hlen : b.log.length ≤ 1000000) (t kind : Int) (k : Nat) (hk : k < b.cells.length) (hin : InM M64 (b.at_ k)) (v : Int) (hv : InM M64 v) :
    Calls Tryd.prog 130 #[.pointer (some ⟨p, 0, none⟩), .int .i64 t, .int .i64 kind, .int .i64 k, .int .u64 v] w
      (MutEnd 142 22 208 .u64 w γ id p (.int .u64 (b.at_ k)) (b.lay t kind k v)) := by
  obtain ⟨cv, dv, lv, hF⟩ := h
  have hbrd := hF.brd
  have hq : w.cell? ⟨p, 14, none⟩ = some cv := hbrd.cell 14
  obtain ⟨g, cap, rfl, hgl, hgc, _⟩ := row_at hF.cel.1 hk
  have hx : b.cells.getD k 0 = b.at_ k := by simp [BS.at_]
  rw [hx] at hgc
  have HN := Lib.hid (bnote64 w γ id p b hF.at_ hlen ⟨t, kind, k, b.at_ k, v⟩)
  have HIN := Lib.hid hin
  have HV := Lib.hid hv
  have HKN := Lib.hid hk
  have hkl : (k : Int) < b.cells.length := by omega
  clear hF hbrd hlen hin hx hv
  go_enter Tryd.func130, Tryd.ntmps130
  go_wp2_with (first
    | (go_at_call 128; refine (up64 _ (by with_reducible first | exact HIN.out | exact HV.out) _).mono ?_; rintro e w' ⟨rfl, rfl⟩)
    | (go_at_call 181; refine HN.out.mono ?_; rintro e w2 ⟨rfl, γ', ⟨cv2, dv2, lv2, hF2⟩, hfr⟩
       have hbrd2 := hF2.brd
       have hq2 : w2.cell? ⟨p, 14, none⟩ = some cv2 := hbrd2.cell 14
       obtain ⟨g2, cap2, rfl, hgl2, hgc2, hgf2⟩ := row_at hF2.cel.1 HKN.out
       have HF2 := Lib.hid hF2
       have HFR := Lib.hid hfr
       clear hF2 hfr hbrd2))
  go_ret
  have hl := HF2.out.laid (by decide) (by decide) (by decide) k v
  refine ⟨rfl, γ', ?_, HFR.out.trans hl.2⟩
  simpa [BS.lay] using hl.1.at_
theorem bLoad64 (w : World) (γ : Nat → Nat) (id p : Nat) (b : BS) (h : BoardAt 142 22 208 .u64 w γ id p b) (hok : b.Ok M64) (hlen : b.log.length ≤ 1000000) (t k : Int) :
    Calls Tryd.prog 108 #[.pointer (some ⟨p, 0, none⟩), .int .i64 t, .int .i64 k] w
      (MutEnd 142 22 208 .u64 w γ id p (.int .u64 (b.load t k).1) (b.load t k).2) := by
  have HIS := Lib.hid (bis64 w γ id p b h k 1)
  have H := Lib.hid h
  unfold BS.load
  by_cases hk : b.l.kind k = 1
  · obtain ⟨n, rfl, hn, hin⟩ := hok.cell (.inl hk)
    have HL := Lib.hid (fun w1 hB => blook64 w1 γ id p b hB hlen t 1 n hn hin)
    rw [if_pos hk]
    rw [show decide (b.l.kind (n : Int) = 1) = true from decide_eq_true hk] at HIS
    clear hok hlen hn hin hk h
    go_enter Tryd.func108, Tryd.ntmps108
    go_wp2_with (first
      | (go_at_call 129; refine HIS.out.mono ?_; rintro e w1 ⟨rfl, hb1⟩; have HB1 := Lib.hid hb1; clear hb1)
      | (go_at_call 168; refine (HL.out _ (H.out.below HB1.out)).mono ?_; rintro e w2 ⟨rfl, γ', hB, hfr⟩; have HB := Lib.hid hB; have HFR := Lib.hid hfr; clear hB hfr))
    go_ret
    exact MutEnd.from_ HB1.out ⟨rfl, γ', HB.out, HFR.out⟩
  · rw [if_neg hk]
    rw [show decide (b.l.kind k = 1) = false from decide_eq_false hk] at HIS
    clear hok hlen hk h
    go_enter Tryd.func108, Tryd.ntmps108
    go_wp2_with (go_at_call 129; refine HIS.out.mono ?_; rintro e w1 ⟨rfl, hb1⟩; have HB1 := Lib.hid hb1; clear hb1)
    go_ret
    exact MutEnd.of_below H.out HB1.out
theorem bStore64 (w : World) (γ : Nat → Nat) (id p : Nat) (b : BS) (h : BoardAt 142 22 208 .u64 w γ id p b) (hok : b.Ok M64) (hlen : b.log.length ≤ 1000000) (t k : Int) (v : Int) (hv : InM M64 v) :
    Calls Tryd.prog 56 #[.pointer (some ⟨p, 0, none⟩), .int .i64 t, .int .i64 k, .int .u64 v] w
      (MutEnd 142 22 208 .u64 w γ id p (.tuple #[]) (b.store t k v)) := by
  have HIS := Lib.hid (bis64 w γ id p b h k 1)
  have H := Lib.hid h
  unfold BS.store
  by_cases hk : b.l.kind k = 1
  · obtain ⟨n, rfl, hn, hin⟩ := hok.cell (.inl hk)
    have HL := Lib.hid (fun w1 hB => blay64 w1 γ id p b hB hlen t 2 n hn hin v hv)
    rw [if_pos hk]
    rw [show decide (b.l.kind (n : Int) = 1) = true from decide_eq_true hk] at HIS
    clear hok hlen hn hin hk h hv
    go_enter Tryd.func56, Tryd.ntmps56
    go_wp2_with (first
      | (go_at_call 129; refine HIS.out.mono ?_; rintro e w1 ⟨rfl, hb1⟩; have HB1 := Lib.hid hb1; clear hb1)
      | (go_at_call 130; refine (HL.out _ (H.out.below HB1.out)).mono ?_; rintro e w2 ⟨rfl, γ', hB, hfr⟩; have HB := Lib.hid hB; have HFR := Lib.hid hfr; clear hB hfr))
    first | go_end0 | refine bodyPost_ret (results_none rfl _ _ _) rfl ?_
    exact MutEnd.from_ HB1.out ⟨rfl, γ', HB.out, HFR.out⟩
  · rw [if_neg hk]
    rw [show decide (b.l.kind k = 1) = false from decide_eq_false hk] at HIS
    clear hok hlen hk h hv
    go_enter Tryd.func56, Tryd.ntmps56
    go_wp2_with (go_at_call 129; refine HIS.out.mono ?_; rintro e w1 ⟨rfl, hb1⟩; have HB1 := Lib.hid hb1; clear hb1)
    first | go_end0 | refine bodyPost_ret (results_none rfl _ _ _) rfl ?_
    exact MutEnd.of_below H.out HB1.out
end Go.Proofs.YtnkmlopjinihiaaDoor
