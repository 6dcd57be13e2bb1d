/- layout.Of of a configuration that may be. -/
import Derived.Test.YtnkmlopjinihiaaDoorConf
import Derived.Test.YtnkmlopjinihiaaDoorCopy
import Derived.Test.YtnkmlopjinihiaaDoorLay
namespace Go.Proofs.YtnkmlopjinihiaaDoor
open Go.RowKit
set_option linter.unusedVariables false
set_option linter.unusedSimpArgs false
set_option maxHeartbeats 400000

theorem CopyInv.upAt {B : Nat} {w : World} {up : List (List Int)} {v : Value} (h : CopyInv B w up up.length v) : ∃ A c, v = .slice A up.length c ∧ up.length ≤ c ∧ UpAt w (fun g => B ≤ g ∧ g < w.heap.size) A up := by
  obtain ⟨vs, hvl, hown, hvs⟩ := h
  obtain ⟨A, c, rfl, hc⟩ := own_form hown
  refine ⟨A, c, rfl, hc, fun i l hl => ?_⟩
  have hil := (List.getElem?_eq_some_iff.1 hl).1
  obtain ⟨u, hu, hou⟩ := hvs i l hil hl
  obtain ⟨A', c', rfl, hc'⟩ := own_form hou
  rcases hown.2 with ⟨_, h0⟩ | ⟨g, cap, cur, hv, hbg, hg, _, _, _, _⟩
  · omega
  · injection hv with hA _ _
    subst hA
    have hlt := (Array.getElem?_eq_some_iff.1 hg).1
    have hcell := hown.cells (g := g) rfl i _ hu
    rw [add_lit] at hcell
    exact ⟨g, 0, A', c', rfl, ⟨hbg, hlt⟩, hcell, ints_of_own hou (fun q h1 h2 => ⟨h1, h2⟩), hc'⟩
theorem heap_alloc_sndB (w : World) (a : Obj) (cs : Array Value) (ty : TypeId) : Blk ((w.alloc a).alloc (.cells cs ty)) (w.heap.size + 1) ty cs := by
  unfold Blk
  have h := heap_alloc_new (w.alloc a) (.cells cs ty)
  simpa using h
/-- what layout.Of answers -/
def OfEnd (c : Cf) (up : List (List Int)) (w : World) (e : Ending) (w' : World) : Prop :=
  ∃ ua' uc', e = .returned (.tuple #[.agg (mkLay { c with ua := ua', uc := uc' }).vs.toArray, .int .i64 0]) ∧ up.length ≤ uc' ∧ UpAt w' (fun b => w.heap.size ≤ b ∧ b < w'.heap.size) ua' up ∧ Below w.heap.size w w'
set_option maxHeartbeats 4000000 in
theorem layof (Bk : Nat → Prop) (c : Cf) (up : List (List Int)) (hun : c.un = up.length) (hok : CfOk c up) (hll : ∀ l ∈ up, l.length ≤ 1000000) (w : World) (hB : ∀ b, Bk b → b < w.heap.size) (hU : UpAt w Bk c.ua up) :
    Calls Tryd.prog 17 #[.agg c.vs.toArray] w (OfEnd c up w) := by
  have hlen := hok.up.len
  have hcap := hok.cap.bd
  have hcon : ∀ o o2, Calls Tryd.prog 84 #[.agg c.vs.toArray] ((w.alloc o).alloc o2) fun e w' => e = .returned (.int .i64 0) ∧ Below ((w.alloc o).alloc o2).heap.size ((w.alloc o).alloc o2) w' := fun o o2 =>
    cconf_ok Bk c up hun hok hll _ (fun b hb => by have := hB b hb; simp; omega) (hU.below (((Below.refl w.heap.size w).alloc (Nat.le_refl _) o).alloc (by simp) o2) hB)
  have hcop : ∀ W, Below w.heap.size w W → Calls Tryd.prog 85 #[.slice c.ua up.length c.uc] W fun e w' => ∃ v, e = .returned v ∧ CopyInv W.heap.size w' up up.length v ∧ Below W.heap.size W w' := fun W hW =>
    gcopy Bk up (by omega) hll c.ua c.uc W (fun b hb => Nat.lt_of_lt_of_le (hB b hb) hW.size) (hU.below hW hB)
  obtain ⟨variant, width, cap, producers, start, ua, un, uc⟩ := c
  simp only at hun hcap
  subst hun
  unfold Cf.vs at hcon ⊢
  simp only at hcon hcop
  have HCON := Lib.hid hcon
  have HCOP := Lib.hid hcop
  clear hcon hcop hU hB hll hok
  by_cases v1 : variant = 1
  · subst v1
    go_enter Tryd.func17, Tryd.ntmps17
    go_wp2_with (first
      | (go_at_call 84; refine (HCON.out _ _).mono ?_; rintro e w1 ⟨rfl, hb1⟩; obtain ⟨hc1, hf1⟩ := bcell hb1)
      | (go_at_call 85
         refine (HCOP.out _ ?cc).mono ?_
         case cc => exact (((Below.refl _ _).alloc (Nat.le_refl _) _).alloc (by simp) _).trans (hb1.mono (by simp; omega))
         rintro e w2 ⟨v, rfl, hinv, hb2⟩
         obtain ⟨A2, c2, rfl, hc2, hU2⟩ := hinv.upAt
         have HU2 := Lib.hid hU2
         have hz1 : w.heap.size + 1 < w1.heap.size := by have := hb1.size; simp at this; omega
         have B0 := (((Blk.new w 25 _).alloc _).below hb1 (by simp; omega)).below hb2 (by omega)
         have B1 := ((heap_alloc_sndB w _ _ _).below hb1 (by simp)).below hb2 hz1
         obtain ⟨q0, q1, q2, q3, q4, q5⟩ := blk_cells6 B0
         obtain ⟨p0, p1, p2, p3, p4, p5, p6, p7, p8, p9, p10, p11, p12, p13⟩ := blk_cells14 B1
         have f0 := fun i => Blk.frozen B0 i
         have f1 := fun i => Blk.frozen B1 i
         have hz2 : w.heap.size < w2.heap.size := by have := hb2.size; omega
         have hz3 : w.heap.size + 1 < w2.heap.size := by have := hb2.size; omega
         have HB0 := Lib.hid B0
         have HB1 := Lib.hid B1
         clear hU2 hinv hc1 hf1 B0 B1))
    go_region
    go_wp2_with fail
    try (go_region; go_wp2_with fail)
    refine bodyPost_ret (v := .tuple #[.agg #[.int .i64 1, .int .i64 width, .int .i64 cap, .int .i64 producers, .int .u64 start, .slice A2 up.length c2, .int .i64 up.length, .int .i64 (-1), .int .i64 (-1), .int .i64 (-1), .int .i64 (-1), .int .i64 (-1), .int .i64 (up.length + 1), .int .i64 (up.length + 1 + cap)], .int .i64 0]) ?_ rfl ?_
    · simp only [results, Tryd.results17]
      go_simp
    · refine ⟨A2, c2, rfl, hc2, (HU2.out.keeps ?_).mono ?_, ?_⟩
      · repeat (with_reducible first | exact Keeps.refl _ _ | refine Keeps.drew ?_ | refine Keeps.setCell ?_ ?_ _ | refine Keeps.alloc ?_ ?_ _)
        all_goals first | (rintro ⟨h1, h2⟩; dsimp only at h1 h2; omega) | (rintro b ⟨h1, h2⟩; simp; omega)
      · intro b hb; simp; omega
      · have hw2 : Below w.heap.size w w2 := ((((Below.refl _ _).alloc (Nat.le_refl _) _).alloc (by simp) _).trans (hb1.mono (by simp; omega))).trans (hb2.mono (by omega))
        repeat (with_reducible first | exact hw2 | refine Below.drew ?_ | refine Below.setCell ?_ ?_ _ | refine Below.alloc ?_ ?_ _)
        all_goals (simp; try omega)
  by_cases v5 : variant = 5
  · subst v5
    clear v1
    go_enter Tryd.func17, Tryd.ntmps17
    go_wp2_with (first
      | (go_at_call 84; refine (HCON.out _ _).mono ?_; rintro e w1 ⟨rfl, hb1⟩; obtain ⟨hc1, hf1⟩ := bcell hb1)
      | (go_at_call 85
         refine (HCOP.out _ ?cc).mono ?_
         case cc => exact (((Below.refl _ _).alloc (Nat.le_refl _) _).alloc (by simp) _).trans (hb1.mono (by simp; omega))
         rintro e w2 ⟨v, rfl, hinv, hb2⟩
         obtain ⟨A2, c2, rfl, hc2, hU2⟩ := hinv.upAt
         have HU2 := Lib.hid hU2
         have hz1 : w.heap.size + 1 < w1.heap.size := by have := hb1.size; simp at this; omega
         have B0 := (((Blk.new w 25 _).alloc _).below hb1 (by simp; omega)).below hb2 (by omega)
         have B1 := ((heap_alloc_sndB w _ _ _).below hb1 (by simp)).below hb2 hz1
         obtain ⟨q0, q1, q2, q3, q4, q5⟩ := blk_cells6 B0
         obtain ⟨p0, p1, p2, p3, p4, p5, p6, p7, p8, p9, p10, p11, p12, p13⟩ := blk_cells14 B1
         have f0 := fun i => Blk.frozen B0 i
         have f1 := fun i => Blk.frozen B1 i
         have hz2 : w.heap.size < w2.heap.size := by have := hb2.size; omega
         have hz3 : w.heap.size + 1 < w2.heap.size := by have := hb2.size; omega
         have HB0 := Lib.hid B0
         have HB1 := Lib.hid B1
         clear hU2 hinv hc1 hf1 B0 B1))
    go_region
    go_wp2_with fail
    try (go_region; go_wp2_with fail)
    refine bodyPost_ret (v := .tuple #[.agg #[.int .i64 5, .int .i64 width, .int .i64 cap, .int .i64 producers, .int .u64 start, .slice A2 up.length c2, .int .i64 (-1), .int .i64 (-1), .int .i64 up.length, .int .i64 (up.length + 1), .int .i64 (up.length + 2), .int .i64 (up.length + 3), .int .i64 (up.length + 3 + cap), .int .i64 (up.length + 3 + cap + cap)], .int .i64 0]) ?_ rfl ?_
    · simp only [results, Tryd.results17]
      go_simp
    · refine ⟨A2, c2, rfl, hc2, (HU2.out.keeps ?_).mono ?_, ?_⟩
      · repeat (with_reducible first | exact Keeps.refl _ _ | refine Keeps.drew ?_ | refine Keeps.setCell ?_ ?_ _ | refine Keeps.alloc ?_ ?_ _)
        all_goals first | (rintro ⟨h1, h2⟩; dsimp only at h1 h2; omega) | (rintro b ⟨h1, h2⟩; simp; omega)
      · intro b hb; simp; omega
      · have hw2 : Below w.heap.size w w2 := ((((Below.refl _ _).alloc (Nat.le_refl _) _).alloc (by simp) _).trans (hb1.mono (by simp; omega))).trans (hb2.mono (by omega))
        repeat (with_reducible first | exact hw2 | refine Below.drew ?_ | refine Below.setCell ?_ ?_ _ | refine Below.alloc ?_ ?_ _)
        all_goals (simp; try omega)
  · have e1 : (variant == 1) = false := by simpa using v1
    have e5 : (variant == 5) = false := by simpa using v5
    have hmk : ∀ c : Cf, c.variant = variant → mkLay c = ⟨c, -1, c.un, -1, -1, -1, c.un + 1, c.un + 1 + c.cap, c.un + 1 + c.cap + c.cap⟩ := fun c hc => by unfold mkLay; rw [if_neg (by rw [hc]; exact v1), if_neg (by rw [hc]; exact v5)]
    have HMK := Lib.hid hmk
    clear v1 v5 hmk
    go_enter Tryd.func17, Tryd.ntmps17
    go_wp2_with (first
      | (go_at_call 84; refine (HCON.out _ _).mono ?_; rintro e w1 ⟨rfl, hb1⟩; obtain ⟨hc1, hf1⟩ := bcell hb1)
      | (go_at_call 85
         refine (HCOP.out _ ?cc).mono ?_
         case cc => exact (((Below.refl _ _).alloc (Nat.le_refl _) _).alloc (by simp) _).trans (hb1.mono (by simp; omega))
         rintro e w2 ⟨v, rfl, hinv, hb2⟩
         obtain ⟨A2, c2, rfl, hc2, hU2⟩ := hinv.upAt
         have HU2 := Lib.hid hU2
         have hz1 : w.heap.size + 1 < w1.heap.size := by have := hb1.size; simp at this; omega
         have B0 := (((Blk.new w 25 _).alloc _).below hb1 (by simp; omega)).below hb2 (by omega)
         have B1 := ((heap_alloc_sndB w _ _ _).below hb1 (by simp)).below hb2 hz1
         obtain ⟨q0, q1, q2, q3, q4, q5⟩ := blk_cells6 B0
         obtain ⟨p0, p1, p2, p3, p4, p5, p6, p7, p8, p9, p10, p11, p12, p13⟩ := blk_cells14 B1
         have f0 := fun i => Blk.frozen B0 i
         have f1 := fun i => Blk.frozen B1 i
         have hz2 : w.heap.size < w2.heap.size := by have := hb2.size; omega
         have hz3 : w.heap.size + 1 < w2.heap.size := by have := hb2.size; omega
         have HB0 := Lib.hid B0
         have HB1 := Lib.hid B1
         clear hU2 hinv hc1 hf1 B0 B1))
    go_region
    go_wp2_with fail
    try (go_region; go_wp2_with fail)
    refine bodyPost_ret (v := .tuple #[.agg #[.int .i64 variant, .int .i64 width, .int .i64 cap, .int .i64 producers, .int .u64 start, .slice A2 up.length c2, .int .i64 (-1), .int .i64 up.length, .int .i64 (-1), .int .i64 (-1), .int .i64 (-1), .int .i64 (up.length + 1), .int .i64 (up.length + 1 + cap), .int .i64 (up.length + 1 + cap + cap)], .int .i64 0]) ?_ rfl ?_
    · simp only [results, Tryd.results17]
      go_simp
    · refine ⟨A2, c2, by rw [HMK.out _ rfl]; rfl, hc2, (HU2.out.keeps ?_).mono ?_, ?_⟩
      · repeat (with_reducible first | exact Keeps.refl _ _ | refine Keeps.drew ?_ | refine Keeps.setCell ?_ ?_ _ | refine Keeps.alloc ?_ ?_ _)
        all_goals first | (rintro ⟨h1, h2⟩; dsimp only at h1 h2; omega) | (rintro b ⟨h1, h2⟩; simp; omega)
      · intro b hb; simp; omega
      · have hw2 : Below w.heap.size w w2 := ((((Below.refl _ _).alloc (Nat.le_refl _) _).alloc (by simp) _).trans (hb1.mono (by simp; omega))).trans (hb2.mono (by omega))
        repeat (with_reducible first | exact hw2 | refine Below.drew ?_ | refine Below.setCell ?_ ?_ _ | refine Below.alloc ?_ ?_ _)
        all_goals (simp; try omega)
end Go.Proofs.YtnkmlopjinihiaaDoor
