/- Contracts of graph.Ends, gate.gates, gate.Ends: who is ahead of nobody. -/
import Derived.Test.YtnkmlopjinihiaaDoorGroup
import Derived.Test.YtnkmlopjinihiaaDoorGraph
import Derived.Test.YtnkmlopjinihiaaDoorLay
import Derived.Test.YtnkmlopjinihiaaDoorBoard2
namespace Go.Proofs.YtnkmlopjinihiaaDoor
open Go.RowKit
set_option linter.unusedVariables false
set_option linter.unusedSimpArgs false
set_option maxHeartbeats 2000000

theorem own_base {w : World} {base b e size n : Nat} {v : Value} {xs : List Value} (h : w.ownsRow base e size v n xs) (hb : b ≤ base) : w.ownsRow b e size v n xs := by
  refine ⟨h.1, ?_⟩
  rcases h.2 with hn | ⟨g, cap, cur, rfl, hg, rest⟩
  · exact .inl hn
  · exact .inr ⟨g, cap, cur, rfl, Nat.le_trans hb hg, rest⟩
theorem names6 {up : List (List Int)} (h : UpOk up) : ∀ l ∈ up, ∀ c ∈ l, 0 ≤ c ∧ c < 6 := fun l hl c hc => by
  have h1 := (h.names l hl).1 c hc
  have h2 := h.len
  omega
theorem gEnds (Bk : Nat → Prop) (up : List (List Int)) (hok : graphCode up = 0) (hll : ∀ l ∈ up, l.length ≤ 1000000) (ua : Option Addr) (uc : Nat) (w : World) (hB : ∀ b, Bk b → b < w.heap.size) (hU : UpAt w Bk ua up)
    (hg : 1 < w.heap.size) (hT : TabG 1 w) :
    Calls Tryd.prog 101 #[.slice ua up.length uc] w fun e w' => ∃ v, e = .returned v ∧ w'.ownsRow w.heap.size 3 1 v (endsP up).length ((endsP up).map (Value.int .i64)) ∧ Below w.heap.size w w' := by
  have hup := upOk_of_code hok
  have hn := hup.len
  have h6 := names6 hup
  have HC := Lib.hid (gcheck Bk up (by omega) hll ua uc w hB hU)
  rw [hok] at HC
  have HF := Lib.hid (fun W => gFull up.length (by omega) W)
  have HT := Lib.hid (And.intro hg hT)
  have H6 := Lib.hid h6
  have HLL := Lib.hid hll
  clear hok hup h6 hT hg
  go_enter Tryd.func101, Tryd.ntmps101
  go_wp2_with (first
    | (go_at_call 154; refine HC.out.mono ?_; rintro e w1 ⟨rfl, hb1⟩; have HB1 := Lib.hid hb1; clear hb1)
    | (go_at_call 163; refine (HF.out _).mono ?_; rintro e w' ⟨rfl, rfl⟩))
  go_loop [3, 16] (fun g i => ∃ k : Nat, k ≤ up.length ∧ i = .int .i64 k ∧ g = .int .u64 ((clrU (fullM up.length) (up.take k) : Nat) : Int)) (fun _ i => up.length - (intOf i).toNat)
  case atStart => exact ⟨0, Nat.zero_le _, rfl, by simp [clrU]⟩
  case round =>
    obtain ⟨k, hk, rfl, rfl⟩ := hrel
    by_cases hlt : k < up.length
    · have hx := List.getElem?_eq_getElem hlt
      obtain ⟨b, o, A', cc, rfl, hb, hc, hI, hcap⟩ := hU k _ hx
      have hlm := hll _ (List.getElem_mem hlt)
      have hl6 := H6.out _ (List.getElem_mem hlt)
      generalize up[k] = l at *
      have hc1 := (HB1.out.cell (p := ⟨b, o + k, none⟩) (hB b hb)).trans hc
      have HI1 := Lib.hid (hI.below HB1.out hB)
      have HX := Lib.hid ((clrU_snoc (fullM up.length) (up.take k) l).symm.trans (congrArg (clrU (fullM up.length)) (take_next hx).symm))
      have HL6 := Lib.hid hl6
      have hm64 : clrU (fullM up.length) (up.take k) < 64 := clrU_lt (fun x hx => H6.out x (List.mem_of_mem_take hx)) (fullM_lt _ (by omega))
      have hki : (k : Int) < up.length := by omega
      generalize clrU (fullM up.length) (up.take k) = m at *
      clear hx hI hc hU hl6
      go_wp2_with fail
      go_loop [3, 22] (fun g i => ∃ q : Nat, q ≤ l.length ∧ i = .int .i64 q ∧ g = .int .u64 ((clrL m (l.take q) : Nat) : Int)) (fun _ i => l.length - (intOf i).toNat)
      case atStart => exact ⟨0, Nat.zero_le _, rfl, by simp [clrL]⟩
      case round =>
        obtain ⟨q, hq, rfl, rfl⟩ := hrel
        by_cases hlq : q < l.length
        · have hx := List.getElem?_eq_getElem hlq
          obtain ⟨b2, o2, rfl, hb2, hc2⟩ := HI1.out q _ hx
          have hx6 := HL6.out _ (List.getElem_mem hlq)
          generalize l[q] = x at *
          obtain ⟨i, rfl⟩ : ∃ i : Nat, x = i := ⟨x.toNat, by omega⟩
          have hq64 : clrL m (l.take q) < 64 := clrL_lt (fun x hx => HL6.out x (List.mem_of_mem_take hx)) hm64
          have HS := Lib.hid ((clrL_snoc m (l.take q) (i : Int)).symm.trans (congrArg (clrL m) (take_next hx).symm))
          generalize clrL m (l.take q) = m2 at *
          have HW := Lib.hid (fun W => gWithout m2 i hq64 (by omega) W)
          clear hx
          go_wp2_with (go_at_call 164; refine (HW.out _).mono ?_; rintro e w' ⟨rfl, rfl⟩)
          go_round
          case rel => exact ⟨q + 1, by omega, by go_num, by have h9 := HS.out; simp only [Int.toNat_natCast] at h9; rw [← h9]⟩
          case measure => simp only [intOf]; omega
        · obtain rfl : q = l.length := by omega
          rw [List.take_length]
          go_wp2_with fail
          go_round
          case rel => exact ⟨k + 1, by omega, by go_num, by rw [← HX.out]⟩
          case measure => simp only [intOf]; omega
    · obtain rfl : k = up.length := by omega
      rw [List.take_length]
      have HL := Lib.hid (gList (clrU (fullM up.length) up) (clrU_lt H6.out (fullM_lt _ (by omega))) w1 (Nat.lt_of_lt_of_le HT.out.1 HB1.out.size) (HT.out.2.below HB1.out HT.out.1))
      clear hU
      go_wp2_with (go_at_call 165; refine HL.out.mono ?_; rintro e w2 ⟨v, rfl, hown, hb2⟩; have HO := Lib.hid (And.intro hown hb2); clear hown hb2)
      go_ret
      exact ⟨v, rfl, own_base HO.out.1 HB1.out.size, HB1.out.trans (HO.out.2.mono HB1.out.size)⟩

set_option maxRecDepth 100000 in
theorem gGates (l : Lay) (hl : l.Bd) (hce : 0 < l.cells) (A : Option Addr) (xs : List Int) (c : Nat) (hin : ∀ x ∈ xs, 0 ≤ x ∧ x < l.c.un) (hxl : xs.length ≤ 1000000) (w : World) (Bk : Nat → Prop) (hB : ∀ b, Bk b → b < w.heap.size) (hI : IntsAt w Bk A xs) :
    Calls Tryd.prog 100 #[.agg l.vs.toArray, .slice A xs.length c] w fun e w' => ∃ v, e = .returned v ∧ w'.ownsRow w.heap.size 3 1 v xs.length (xs.map (Value.int .i64)) ∧ Below w.heap.size w w' := by
  obtain ⟨i0, hi, hz0, hz1, hz2⟩ := info_parts gint_info
  have HLG := Lib.hid (fun (x : Int) W => lgate l hl x W)
  have HG := Lib.hid (fun (x : Int) (h : 0 ≤ x ∧ x < l.c.un) => show l.gate x = x from if_pos ⟨hce, h⟩)
  have HIN := Lib.hid hin
  have HII := Lib.hid hI
  unfold Lay.vs at *
  clear hl hce hin hI
  go_enter Tryd.func100, Tryd.ntmps100
  go_wp2_with fail
  go_loopw [5, 10] (fun out i wr => ∃ k : Nat, k ≤ xs.length ∧ i = .int .i64 k ∧ Below (w.heap.size + 1) (w.alloc (.cells l.vs.toArray 30)) wr ∧ wr.ownsRow (w.heap.size + 1) 3 1 out k ((xs.take k).map (Value.int .i64))) (fun _ i _ => xs.length - (intOf i).toNat)
  case atStart => exact ⟨0, Nat.zero_le _, rfl, by have h := Below.refl (w.alloc (.cells l.vs.toArray 30)).heap.size (w.alloc (.cells l.vs.toArray 30)); rw [World.size_alloc] at h; exact h, World.ownsRow_nil _ _ _ _⟩
  case round =>
    obtain ⟨k, hk, rfl, hbe, hown⟩ := hrel
    have HBE := Lib.hid hbe
    by_cases hlt : k < xs.length
    · have hx := List.getElem?_eq_getElem hlt
      obtain ⟨b, o, rfl, hb, hc⟩ := HII.out k _ hx
      have hxin := HIN.out _ (List.getElem_mem hlt)
      generalize xs[k] = x at *
      have hblt := hB b hb
      have hc1 := (hbe.cell (p := ⟨b, o + k, none⟩) (by show b < _; omega)).trans ((World.cell?_alloc_lt w _ ⟨b, o + k, none⟩ hblt).trans hc)
      have hki : (k : Int) < xs.length := by omega
      have hq0 := (hbe.cell (p := ⟨w.heap.size, 0, none⟩) (by show w.heap.size < _; omega)).trans ((Blk.new w 30 l.vs.toArray).cell 0)
      have hbs := hbe.size
      rw [World.size_alloc] at hbs
      have HX := Lib.hid (congrArg (List.map (Value.int .i64)) (take_next hx))
      have HOWN := Lib.hid hown
      obtain ⟨A0, c0, rfl, hc0⟩ := own_form hown
      obtain ⟨p0, p1, p2, p3, p4, p5, p6, p7, p8, p9, p10, p11, p12, p13⟩ := blk_cells14 ((Blk.new w 30 _).below hbe (Nat.lt_succ_self _))
      have HXI := Lib.hid hxin
      clear hx hc hq0 hown hxin hbe
      go_wp2_with (first
        | (go_at_call 24; refine (HLG.out x _).mono ?_; rintro e w1 ⟨rfl, hb1⟩; rw [HG.out x HXI.out]; have HB1 := Lib.hid hb1; have hzw := hb1.size; have HO1 := Lib.hid (ownsRow_keep HOWN.out (fun g hg => hb1.block g (HOWN.out.lt g hg).2)); clear hb1)
        | (at_builtin
           refine wpList_append_own _ rfl (.tmp 14) (.tmp 18) 58 rfl (w.heap.size + 1) 3 i0 (.int .i64 0) 1 8 Tryd.underlying58 hi hz0 hz1 hz2 rfl (by decide) (.slice A0 k c0) k _ rfl (HO1.out.alloc _) ⟨w1.heap.size, 0, none⟩ 1 1 [.int .i64 x] rfl rfl ?d1 ?d2 ?d3 ?d4 ?d5 ?d6
           case d1 => exact cell_one_new _ _ _
           case d2 => (intro u hu; simp at hu; subst hu; rfl)
           case d3 => (simp only [maxLen]; omega)
           case d4 => omega
           case d5 => (simp; omega)
           intro v2 w2 hown2 hg2 hat2
           have HOWN2 := Lib.hid hown2
           have HG2 := Lib.hid hg2
           clear hown2 hg2 hat2))
      go_roundw
      case rel =>
        refine ⟨k + 1, by omega, by go_num, ?_, ?_⟩
        · refine Below.grown (Below.alloc (HBE.out.trans (HB1.out.mono (by omega))) (by omega) _) HG2.out (by simp; omega) ?_
          intro q hq; exact (HO1.out.lt q hq).1
        · rw [HX.out]; simpa using HOWN2.out
      case measure => simp only [intOf]; omega
    · obtain rfl : k = xs.length := by omega
      rw [List.take_length] at hown
      have HO := Lib.hid hown
      clear hown hbe
      go_wp2_with fail
      go_ret
      exact ⟨_, rfl, own_base HO.out (by omega), ((Below.refl _ _).alloc (Nat.le_refl _) _).trans (HBE.out.mono (by omega))⟩

set_option maxRecDepth 100000 in
theorem gateEnds (Bk : Nat → Prop) (l : Lay) (hl : l.Bd) (hce : 0 < l.cells) (up : List (List Int)) (hun : l.c.un = up.length) (hok : graphCode up = 0) (hll : ∀ l ∈ up, l.length ≤ 1000000) (w : World) (hB : ∀ b, Bk b → b < w.heap.size) (hU : UpAt w Bk l.c.ua up)
    (hg : 1 < w.heap.size) (hT : TabG 1 w) :
    Calls Tryd.prog 33 #[.agg l.vs.toArray] w fun e w' => ∃ v, e = .returned v ∧ w'.ownsRow w.heap.size 3 1 v (endsP up).length ((endsP up).map (Value.int .i64)) ∧ Below w.heap.size w w' := by
  have hup := upOk_of_code hok
  have HE := Lib.hid (fun W (hW : Below w.heap.size w W) => gEnds Bk up hok hll l.c.ua l.c.uc W (fun b hb => Nat.lt_of_lt_of_le (hB b hb) hW.size) (hU.below hW hB) (Nat.lt_of_lt_of_le hg hW.size) (hT.below hW hg))
  have HGG := Lib.hid (fun W A c Bk hB hI => gGates l hl hce A (endsP up) c (fun x hx => by rw [hun]; exact endsP_in hup.len.2 (names6 hup) x hx) (by have := endsP_len up; omega) W Bk hB hI)
  have hcz : (l.cells == 0) = false := by simp; omega
  unfold Lay.vs at *
  rw [hun]
  rw [hun] at HGG
  clear hl hok hll hB hU hg hT hun hce hup
  go_enter Tryd.func33, Tryd.ntmps33
  go_wp2_with fail
  have B0 := Blk.new w 30 #[.int .i64 l.c.variant, .int .i64 l.c.width, .int .i64 l.c.cap, .int .i64 l.c.producers, .int .u64 l.c.start, .slice l.c.ua up.length l.c.uc, .int .i64 l.cursor, .int .i64 l.claim, .int .i64 l.ticket, .int .i64 l.serving, .int .i64 l.next, .int .i64 l.marks, .int .i64 l.slots, .int .i64 l.cells]
  have hb0 := (Below.refl w.heap.size w).alloc (Nat.le_refl _) (Obj.cells #[.int .i64 l.c.variant, .int .i64 l.c.width, .int .i64 l.c.cap, .int .i64 l.c.producers, .int .u64 l.c.start, .slice l.c.ua up.length l.c.uc, .int .i64 l.cursor, .int .i64 l.claim, .int .i64 l.ticket, .int .i64 l.serving, .int .i64 l.next, .int .i64 l.marks, .int .i64 l.slots, .int .i64 l.cells] 30)
  have hsz : w.heap.size < (w.alloc (Obj.cells #[.int .i64 l.c.variant, .int .i64 l.c.width, .int .i64 l.c.cap, .int .i64 l.c.producers, .int .u64 l.c.start, .slice l.c.ua up.length l.c.uc, .int .i64 l.cursor, .int .i64 l.claim, .int .i64 l.ticket, .int .i64 l.serving, .int .i64 l.next, .int .i64 l.marks, .int .i64 l.slots, .int .i64 l.cells] 30)).heap.size := by simp
  generalize (w.alloc (Obj.cells #[.int .i64 l.c.variant, .int .i64 l.c.width, .int .i64 l.c.cap, .int .i64 l.c.producers, .int .u64 l.c.start, .slice l.c.ua up.length l.c.uc, .int .i64 l.cursor, .int .i64 l.claim, .int .i64 l.ticket, .int .i64 l.serving, .int .i64 l.next, .int .i64 l.marks, .int .i64 l.slots, .int .i64 l.cells] 30)) = W1 at *
  obtain ⟨p0, p1, p2, p3, p4, p5, p6, p7, p8, p9, p10, p11, p12, p13⟩ := blk_cells14 B0
  have HB0 := Lib.hid hb0
  have HBK := Lib.hid B0
  clear hb0 B0
  go_region_held3 (fun w' => w'.cell? ⟨w.heap.size, 0, none⟩ = some (.int .i64 l.c.variant) ∧ w'.cell? ⟨w.heap.size, 1, none⟩ = some (.int .i64 l.c.width) ∧ w'.cell? ⟨w.heap.size, 2, none⟩ = some (.int .i64 l.c.cap) ∧ w'.cell? ⟨w.heap.size, 3, none⟩ = some (.int .i64 l.c.producers) ∧ w'.cell? ⟨w.heap.size, 4, none⟩ = some (.int .u64 l.c.start) ∧ w'.cell? ⟨w.heap.size, 5, none⟩ = some (.slice l.c.ua up.length l.c.uc) ∧ w'.cell? ⟨w.heap.size, 6, none⟩ = some (.int .i64 l.cursor) ∧ w'.cell? ⟨w.heap.size, 7, none⟩ = some (.int .i64 l.claim) ∧ w'.cell? ⟨w.heap.size, 8, none⟩ = some (.int .i64 l.ticket) ∧ w'.cell? ⟨w.heap.size, 9, none⟩ = some (.int .i64 l.serving) ∧ w'.cell? ⟨w.heap.size, 10, none⟩ = some (.int .i64 l.next) ∧ w'.cell? ⟨w.heap.size, 11, none⟩ = some (.int .i64 l.marks) ∧ w'.cell? ⟨w.heap.size, 12, none⟩ = some (.int .i64 l.slots) ∧ w'.cell? ⟨w.heap.size, 13, none⟩ = some (.int .i64 l.cells)) (go_keep) (first
    | (go_at_call 101; refine (HE.out _ (by repeat (with_reducible first | exact HB0.out | refine Below.drew ?_ | refine below_drewN ?_ _))).mono ?_; rintro e w2 ⟨v, rfl, hown, hb2⟩; obtain ⟨A2, c2, rfl, _⟩ := own_form hown; have hb2' : Below W1.heap.size W1 w2 := ⟨hb2.os, hb2.tape, hb2.output, hb2.size, hb2.block⟩; have HK2 := Lib.hid (HBK.out.below hb2' hsz); obtain ⟨q0, q1, q2, q3, q4, q5, q6, q7, q8, q9, q10, q11, q12, q13⟩ := blk_cells14 (HBK.out.below hb2' hsz); have HO2 := Lib.hid hown; have HB2 := Lib.hid (Below.trans (b := W1) HB0.out (hb2'.mono HB0.out.size)); have hz2 : w.heap.size < w2.heap.size := Nat.lt_of_lt_of_le hsz hb2.size; clear hown hb2 hb2')
    | (go_at_call 100; refine (HGG.out _ A2 c2 (fun b => b < w2.heap.size) (fun b hb => hb) (ints_of_own HO2.out (fun g _ h => h))).mono ?_; rintro e w3 ⟨v, rfl, hown, hb3⟩; obtain ⟨A3, c3, rfl, _⟩ := own_form hown; have hb3' : Below w2.heap.size w2 w3 := ⟨hb3.os, hb3.tape, hb3.output, hb3.size, hb3.block⟩; obtain ⟨r0, r1, r2, r3, r4, r5, r6, r7, r8, r9, r10, r11, r12, r13⟩ := blk_cells14 (HK2.out.below hb3' hz2); clear hb3'; have HO3 := Lib.hid (And.intro hown hb3); clear hown hb3))
  go_wp2_with fail
  go_ret
  have h3 : Below w2.heap.size w2 w3 := ⟨HO3.out.2.os, HO3.out.2.tape, HO3.out.2.output, HO3.out.2.size, HO3.out.2.block⟩
  exact ⟨_, rfl, own_base HO3.out.1 HB2.out.size, HB2.out.trans (h3.mono HB2.out.size)⟩
end Go.Proofs.YtnkmlopjinihiaaDoor
