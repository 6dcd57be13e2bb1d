/- (Layout).First of a layout of a configuration that may be. -/
import Derived.Test.YtnkmlopjinihiaaDoorConf
import Derived.Test.YtnkmlopjinihiaaDoorLay
import Derived.Test.YtnkmlopjinihiaaDoorLap
namespace Go.Proofs.YtnkmlopjinihiaaDoor
open Go.RowKit
set_option linter.unusedVariables false
set_option linter.unusedSimpArgs false
set_option maxHeartbeats 400000

theorem lfirst (Bk : Nat → Prop) (c : Cf) (up : List (List Int)) (hun : c.un = up.length) (hok : CfOk c up) (hst : 0 ≤ c.start ∧ c.start ≤ 18446744073709551615) (hll : ∀ l ∈ up, l.length ≤ 1000000) (k : Int) (hk : 0 ≤ k ∧ k ≤ 200) (w : World) (hB : ∀ b, Bk b → b < w.heap.size) (hU : UpAt w Bk c.ua up) :
    Calls Tryd.prog 47 #[.agg (mkLay c).vs.toArray, .int .i64 k] w fun e w' => e = .returned (.int .u64 ((mkLay c).first k)) ∧ Below w.heap.size w w' := by
  have hbd := mkLay_bd (c := c) (by have := hok.up.len; omega) hok.cap
  have hmk := mkLay_c c
  have hms := fun h => mkLay_marks (c := c) h
  have hce := mkLay_cells hok.cap
  generalize mkLay c = l at *
  subst hmk
  have hsI : startI l.c = cutM (MW l.c.width) l.c.start := rfl
  have hcon : ∀ W, Below w.heap.size w W → Calls Tryd.prog 115 #[.agg l.c.vs.toArray] W fun e w' => e = .returned (.int .u64 (startI l.c)) ∧ Below W.heap.size W w' := fun W hW =>
    cstart Bk l.c up hun hok hst hll W (fun b hb => Nat.lt_of_lt_of_le (hB b hb) hW.size) (hU.below hW hB)
  have hth := fun W => lthere l k W
  have hmd := fun W => lmarked l hbd k hk W
  have hfirst := fun (W : World) => l.first k
  have hw := hok.width
  have hcap := hok.cap
  have hpr : InM (MW l.c.width) (startI l.c) := by
    rw [hsI]
    rcases hw with h | h
    · rw [h]; exact cutM_in32 _
    · rw [h]; exact cutM_in64 _
  generalize hg : startI l.c = s at *
  have hfd : l.first k = if ¬ (0 < l.cells ∧ 0 ≤ k ∧ k < l.cells) ∨ l.slots ≤ k ∨ k = l.ticket ∨ k = l.serving then 0
    else if ¬ (0 ≤ l.marks ∧ l.marks ≤ k ∧ k < l.slots) then s
    else if l.c.variant = 4 then firstI (MW l.c.width) l.c.cap (k - l.marks) s else aheadI (MW l.c.width) l.c.cap (k - l.marks) s := by
    unfold Lay.first; rw [hg]
  rw [hfd]
  clear hfd hg hsI hst hok hU hB hll hun hbd hfirst
  obtain ⟨⟨variant, width, cap, producers, start, ua, un, uc⟩, cursor, claim, ticket, serving, next, marks, slots, cells⟩ := l
  simp only at *
  unfold Cf.vs at hcon
  unfold Lay.vs at hth hmd ⊢
  simp only at hcon hth hmd ⊢
  by_cases h1 : 0 < cells ∧ 0 ≤ k ∧ k < cells
  · have hth' : ∀ W : World, Calls Tryd.prog 89 _ W fun e w' => e = .returned (.bool true) ∧ Below W.heap.size W w' := fun W => (hth W).mono fun e w' h => ⟨h.1.trans (ret_bool (by simp [h1])), h.2⟩
    have HTH := Lib.hid hth'
    have HCON := Lib.hid hcon
    have HMD := Lib.hid hmd
    have HW := Lib.hid hw
    have HCAP := Lib.hid hcap
    have HMS := Lib.hid hms
    have HCE := Lib.hid hce
    have HPR := Lib.hid hpr
    have H1 := Lib.hid h1
    clear hcon hth hmd hw hcap hms hce hpr hth' h1
    by_cases h2 : slots ≤ k
    · rw [if_pos (.inr (.inl h2))]
      go_enter Tryd.func47, Tryd.ntmps47
      go_wp2_with (go_at_call 89; refine (HTH.out _).mono ?_; rintro e w1 ⟨rfl, hb1⟩; have B1 := (Blk.new w 30 _).below hb1 (by simp); obtain ⟨p0, p1, p2, p3, p4, p5, p6, p7, p8, p9, p10, p11, p12, p13⟩ := blk_cells14 B1; have HB1 := Lib.hid B1; clear B1)
      go_ret
      exact ⟨rfl, below_new hb1⟩
    · have h2' : k < slots := by omega
      clear h2
      by_cases h3 : k = ticket
      · rw [if_pos (.inr (.inr (.inl h3)))]
        have e3 : (k == ticket) = true := by simpa using h3
        clear h3
        go_enter Tryd.func47, Tryd.ntmps47
        go_wp2_with (go_at_call 89; refine (HTH.out _).mono ?_; rintro e w1 ⟨rfl, hb1⟩; have B1 := (Blk.new w 30 _).below hb1 (by simp); obtain ⟨p0, p1, p2, p3, p4, p5, p6, p7, p8, p9, p10, p11, p12, p13⟩ := blk_cells14 B1; have HB1 := Lib.hid B1; clear B1)
        go_ret
        exact ⟨rfl, below_new hb1⟩
      have e3 : (k == ticket) = false := by simpa using h3
      by_cases h3b : k = serving
      · rw [if_pos (.inr (.inr (.inr h3b)))]
        have e3b : (k == serving) = true := by simpa using h3b
        clear h3 h3b
        go_enter Tryd.func47, Tryd.ntmps47
        go_wp2_with (go_at_call 89; refine (HTH.out _).mono ?_; rintro e w1 ⟨rfl, hb1⟩; have B1 := (Blk.new w 30 _).below hb1 (by simp); obtain ⟨p0, p1, p2, p3, p4, p5, p6, p7, p8, p9, p10, p11, p12, p13⟩ := blk_cells14 B1; have HB1 := Lib.hid B1; clear B1)
        go_ret
        exact ⟨rfl, below_new hb1⟩
      have e3b : (k == serving) = false := by simpa using h3b
      have hno : ¬ (¬ (0 < cells ∧ 0 ≤ k ∧ k < cells) ∨ slots ≤ k ∨ k = ticket ∨ k = serving) := by
        have := H1.out
        omega
      rw [if_neg hno]
      clear hno h3 h3b
      by_cases h5 : 0 ≤ marks ∧ marks ≤ k ∧ k < slots
      · rw [if_neg (fun h => h h5)]
        have hmk1 : Lay.marked ⟨⟨variant, width, cap, producers, start, ua, un, uc⟩, cursor, claim, ticket, serving, next, marks, slots, cells⟩ k = true := by unfold Lay.marked; simpa using h5
        have hmd' := HMD.out
        rw [hmk1] at hmd'
        clear HMD hmk1
        have HMD := Lib.hid hmd'
        have HSL : Hid (0 ≤ k - marks ∧ k - marks < cap) := by
          have := HMS.out h5.1
          show 0 ≤ k - marks ∧ k - marks < cap
          omega
        clear hmd' h5
        rcases HW.out with rfl | rfl
        · have HIN : Hid (InM M32 s) := HPR.out
          have hs32 := bd32 HIN.out
          have hfb := bd32 (firstI_in32 cap (k - marks) s)
          have hab := bd32 (aheadI_in32 HCAP.out (k - marks) s)
          by_cases h4 : variant = 4
          · subst h4
            rw [if_pos rfl]
            go_enter Tryd.func47, Tryd.ntmps47
            go_wp2_with (first | (go_at_call 89; refine (HTH.out _).mono ?_; rintro e w1 ⟨rfl, hb1⟩; have B1 := (Blk.new w 30 _).below hb1 (by simp); obtain ⟨p0, p1, p2, p3, p4, p5, p6, p7, p8, p9, p10, p11, p12, p13⟩ := blk_cells14 B1; have HB1 := Lib.hid B1; clear B1) | (go_at_call 115; refine (HCON.out _ (below_new hb1)).mono ?_; rintro e w2 ⟨rfl, hb2⟩; have B2 := HB1.out.below hb2 HB1.out.lt; obtain ⟨q0, q1, q2, q3, q4, q5, q6, q7, q8, q9, q10, q11, q12, q13⟩ := blk_cells14 B2; have HB2 := Lib.hid B2; clear B2) | (go_at_call 88; refine (HMD.out _).mono ?_; rintro e w3 ⟨rfl, hb3⟩; have B3 := HB2.out.below hb3 HB2.out.lt; obtain ⟨r0, r1, r2, r3, r4, r5, r6, r7, r8, r9, r10, r11, r12, r13⟩ := blk_cells14 B3; have HB3 := Lib.hid B3; clear B3) | (go_at_call 116; refine (lapfirst32 cap _ s HCAP.out (by have := HSL.out; omega) HIN.out _).mono ?_; rintro e w' ⟨rfl, rfl⟩))
            go_ret
            exact ⟨rfl, (below_new hb1).trans ((hb2.mono (below_new hb1).size).trans (hb3.mono (Nat.le_trans (below_new hb1).size hb2.size)))⟩
          · have e4 : (variant == 4) = false := by simpa using h4
            rw [if_neg h4]
            clear h4
            go_enter Tryd.func47, Tryd.ntmps47
            go_wp2_with (first | (go_at_call 89; refine (HTH.out _).mono ?_; rintro e w1 ⟨rfl, hb1⟩; have B1 := (Blk.new w 30 _).below hb1 (by simp); obtain ⟨p0, p1, p2, p3, p4, p5, p6, p7, p8, p9, p10, p11, p12, p13⟩ := blk_cells14 B1; have HB1 := Lib.hid B1; clear B1) | (go_at_call 115; refine (HCON.out _ (below_new hb1)).mono ?_; rintro e w2 ⟨rfl, hb2⟩; have B2 := HB1.out.below hb2 HB1.out.lt; obtain ⟨q0, q1, q2, q3, q4, q5, q6, q7, q8, q9, q10, q11, q12, q13⟩ := blk_cells14 B2; have HB2 := Lib.hid B2; clear B2) | (go_at_call 88; refine (HMD.out _).mono ?_; rintro e w3 ⟨rfl, hb3⟩; have B3 := HB2.out.below hb3 HB2.out.lt; obtain ⟨r0, r1, r2, r3, r4, r5, r6, r7, r8, r9, r10, r11, r12, r13⟩ := blk_cells14 B3; have HB3 := Lib.hid B3; clear B3) | (go_at_call 117; refine (lapahead32 cap _ s HCAP.out (by have := HSL.out; omega) HIN.out _).mono ?_; rintro e w' ⟨rfl, nq, rfl⟩))
            go_ret
            exact ⟨rfl, below_drewN ((below_new hb1).trans ((hb2.mono (below_new hb1).size).trans (hb3.mono (Nat.le_trans (below_new hb1).size hb2.size)))) _⟩
        · have HIN : Hid (InM M64 s) := HPR.out
          by_cases h4 : variant = 4
          · subst h4
            rw [if_pos rfl]
            go_enter Tryd.func47, Tryd.ntmps47
            go_wp2_with (first | (go_at_call 89; refine (HTH.out _).mono ?_; rintro e w1 ⟨rfl, hb1⟩; have B1 := (Blk.new w 30 _).below hb1 (by simp); obtain ⟨p0, p1, p2, p3, p4, p5, p6, p7, p8, p9, p10, p11, p12, p13⟩ := blk_cells14 B1; have HB1 := Lib.hid B1; clear B1) | (go_at_call 115; refine (HCON.out _ (below_new hb1)).mono ?_; rintro e w2 ⟨rfl, hb2⟩; have B2 := HB1.out.below hb2 HB1.out.lt; obtain ⟨q0, q1, q2, q3, q4, q5, q6, q7, q8, q9, q10, q11, q12, q13⟩ := blk_cells14 B2; have HB2 := Lib.hid B2; clear B2) | (go_at_call 88; refine (HMD.out _).mono ?_; rintro e w3 ⟨rfl, hb3⟩; have B3 := HB2.out.below hb3 HB2.out.lt; obtain ⟨r0, r1, r2, r3, r4, r5, r6, r7, r8, r9, r10, r11, r12, r13⟩ := blk_cells14 B3; have HB3 := Lib.hid B3; clear B3) | (go_at_call 118; refine (lapfirst64 cap _ s HCAP.out (by have := HSL.out; omega) HIN.out _).mono ?_; rintro e w' ⟨rfl, rfl⟩))
            go_ret
            exact ⟨rfl, (below_new hb1).trans ((hb2.mono (below_new hb1).size).trans (hb3.mono (Nat.le_trans (below_new hb1).size hb2.size)))⟩
          · have e4 : (variant == 4) = false := by simpa using h4
            rw [if_neg h4]
            clear h4
            go_enter Tryd.func47, Tryd.ntmps47
            go_wp2_with (first | (go_at_call 89; refine (HTH.out _).mono ?_; rintro e w1 ⟨rfl, hb1⟩; have B1 := (Blk.new w 30 _).below hb1 (by simp); obtain ⟨p0, p1, p2, p3, p4, p5, p6, p7, p8, p9, p10, p11, p12, p13⟩ := blk_cells14 B1; have HB1 := Lib.hid B1; clear B1) | (go_at_call 115; refine (HCON.out _ (below_new hb1)).mono ?_; rintro e w2 ⟨rfl, hb2⟩; have B2 := HB1.out.below hb2 HB1.out.lt; obtain ⟨q0, q1, q2, q3, q4, q5, q6, q7, q8, q9, q10, q11, q12, q13⟩ := blk_cells14 B2; have HB2 := Lib.hid B2; clear B2) | (go_at_call 88; refine (HMD.out _).mono ?_; rintro e w3 ⟨rfl, hb3⟩; have B3 := HB2.out.below hb3 HB2.out.lt; obtain ⟨r0, r1, r2, r3, r4, r5, r6, r7, r8, r9, r10, r11, r12, r13⟩ := blk_cells14 B3; have HB3 := Lib.hid B3; clear B3) | (go_at_call 119; refine (lapahead64 cap _ s HCAP.out (by have := HSL.out; omega) HIN.out _).mono ?_; rintro e w' ⟨rfl, nq, rfl⟩))
            go_ret
            exact ⟨rfl, below_drewN ((below_new hb1).trans ((hb2.mono (below_new hb1).size).trans (hb3.mono (Nat.le_trans (below_new hb1).size hb2.size)))) _⟩
      · rw [if_pos h5]
        have hmk1 : Lay.marked ⟨⟨variant, width, cap, producers, start, ua, un, uc⟩, cursor, claim, ticket, serving, next, marks, slots, cells⟩ k = false := by unfold Lay.marked; simpa using h5
        have hmd' := HMD.out
        rw [hmk1] at hmd'
        clear HMD hmk1
        have HMD := Lib.hid hmd'
        clear hmd' h5
        go_enter Tryd.func47, Tryd.ntmps47
        go_wp2_with (first | (go_at_call 89; refine (HTH.out _).mono ?_; rintro e w1 ⟨rfl, hb1⟩; have B1 := (Blk.new w 30 _).below hb1 (by simp); obtain ⟨p0, p1, p2, p3, p4, p5, p6, p7, p8, p9, p10, p11, p12, p13⟩ := blk_cells14 B1; have HB1 := Lib.hid B1; clear B1) | (go_at_call 115; refine (HCON.out _ (below_new hb1)).mono ?_; rintro e w2 ⟨rfl, hb2⟩; have B2 := HB1.out.below hb2 HB1.out.lt; obtain ⟨q0, q1, q2, q3, q4, q5, q6, q7, q8, q9, q10, q11, q12, q13⟩ := blk_cells14 B2; have HB2 := Lib.hid B2; clear B2) | (go_at_call 88; refine (HMD.out _).mono ?_; rintro e w3 ⟨rfl, hb3⟩; have B3 := HB2.out.below hb3 HB2.out.lt; obtain ⟨r0, r1, r2, r3, r4, r5, r6, r7, r8, r9, r10, r11, r12, r13⟩ := blk_cells14 B3; have HB3 := Lib.hid B3; clear B3))
        go_ret
        exact ⟨rfl, (below_new hb1).trans ((hb2.mono (below_new hb1).size).trans (hb3.mono (Nat.le_trans (below_new hb1).size hb2.size)))⟩
  · have hth' : ∀ W : World, Calls Tryd.prog 89 _ W fun e w' => e = .returned (.bool false) ∧ Below W.heap.size W w' := fun W => (hth W).mono fun e w' h => ⟨h.1.trans (ret_bool (by simpa using h1)), h.2⟩
    have HTH := Lib.hid hth'
    rw [if_pos (.inl h1)]
    clear hcon hth hmd hw hcap hms hce hpr hth' h1
    go_enter Tryd.func47, Tryd.ntmps47
    go_wp2_with (go_at_call 89; refine (HTH.out _).mono ?_; rintro e w1 ⟨rfl, hb1⟩; have B1 := (Blk.new w 30 _).below hb1 (by simp); obtain ⟨p0, p1, p2, p3, p4, p5, p6, p7, p8, p9, p10, p11, p12, p13⟩ := blk_cells14 B1; have HB1 := Lib.hid B1; clear B1)
    go_ret
    exact ⟨rfl, below_new hb1⟩
end Go.Proofs.YtnkmlopjinihiaaDoor
