/- layout.Name: cells' names. -/
import Derived.Test.YtnkmlopjinihiaaDoorLay
import Derived.Test.YtnkmlopjinihiaaDoorShow
import Derived.Deep.QuietTactic
import Derived.BigQuiet
namespace Go.Proofs.YtnkmlopjinihiaaDoor
open Go.RowKit
set_option linter.unusedVariables false
set_option linter.unusedSimpArgs false
set_option maxHeartbeats 2000000

def kindT (v : Int) : List UInt8 := if v = 2 ∨ v = 3 then [109, 97, 114, 107] else if v = 4 then [115, 116, 97, 109, 112] else [100, 111, 110, 101]
/-- 'marked' of any number -/
theorem lmarkedAny (l : Lay) (hl : l.Bd) (k : Int) (hk : -9223372036854775808 ≤ k ∧ k ≤ 9223372036854775807) (w : World) : Calls Tryd.prog 88 #[.agg l.vs.toArray, .int .i64 k] w fun e w' => (∃ s, e = .returned (.tuple #[.int .i64 s, .bool (l.marked k)]) ∧ (l.marked k = true → s = k - l.marks)) ∧ Below w.heap.size w w' := by
  have hl1 := hl.marks
  have hl2 := hl.slots
  unfold Lay.vs
  by_cases h1 : 0 ≤ l.marks
  · by_cases h2 : l.marks ≤ k
    · by_cases h3 : k < l.slots
      · go_enter Tryd.func88, Tryd.ntmps88
        go_wp2_with fail
        go_quiet (fail)
        go_wp2_with fail
        go_ret2
        exact ⟨⟨_, ret_pair rfl (by grind [Lay.marked]), fun _ => by first | rfl | omega | (simp <;> omega)⟩, below_drewN ((Below.refl _ _).alloc (Nat.le_refl _) _) _⟩
      · have hd2 : decide (k < l.slots) = false := by simpa using h3
        have hd3 : l.marked k = false := by unfold Lay.marked; simp <;> omega
        go_enter Tryd.func88, Tryd.ntmps88
        go_wp2_with fail
        go_quiet (fail)
        go_wp2_with fail
        go_ret2
        exact ⟨⟨_, ret_pair rfl (by grind [Lay.marked]), fun h => absurd h (by rw [hd3]; decide)⟩, below_drewN ((Below.refl _ _).alloc (Nat.le_refl _) _) _⟩
    · have hd2 : decide (l.marks ≤ k) = false := by simpa using h2
      have hd3 : l.marked k = false := by unfold Lay.marked; simp <;> omega
      clear h2
      go_enter Tryd.func88, Tryd.ntmps88
      go_wp2_with fail
      go_quiet (fail)
      go_wp2_with fail
      go_ret2
      exact ⟨⟨_, ret_pair rfl (by grind [Lay.marked]), fun h => absurd h (by rw [hd3]; decide)⟩, below_drewN ((Below.refl _ _).alloc (Nat.le_refl _) _) _⟩
  · have hd2 : decide (0 ≤ l.marks) = false := by simpa using h1
    have hd3 : l.marked k = false := by unfold Lay.marked; simp <;> omega
    clear h1
    go_enter Tryd.func88, Tryd.ntmps88
    go_wp2_with fail
    go_quiet (fail)
    go_wp2_with fail
    go_ret2
    exact ⟨⟨_, ret_pair rfl (by grind [Lay.marked]), fun h => absurd h (by rw [hd3]; decide)⟩, below_drewN ((Below.refl _ _).alloc (Nat.le_refl _) _) _⟩
theorem nameNot (l : Lay) (hl : l.Bd) (k : Int) (hk : -9223372036854775808 ≤ k ∧ k ≤ 9223372036854775807) (hn : decide (0 < l.cells ∧ 0 ≤ k ∧ k < l.cells) = false) (w : World) :
    Calls Tryd.prog 20 #[.agg l.vs.toArray, .int .i64 k] w fun e w' => e = .returned (.string ⟨#[]⟩) ∧ Below w.heap.size w w' := by
  have HM := Lib.hid (lmarkedAny l hl k hk)
  have HT := Lib.hid (lthere l k)
  rw [hn] at HT
  clear hk
  unfold Lay.vs at HM HT
  unfold Lay.vs
  go_enter Tryd.func20, Tryd.ntmps20
  go_wp2_with (first
    | (go_at_call 88; refine (HM.out _).mono ?_; rintro e w1 ⟨⟨s, rfl, hs⟩, hb1⟩; obtain ⟨hc1, hf1⟩ := bcell hb1; have HB1 := Lib.hid hb1; have hz1 : w.heap.size < w1.heap.size := Nat.lt_of_lt_of_le (by simp <;> omega) hb1.size; have hy1 : w.heap.size + 1 < w1.heap.size := Nat.lt_of_lt_of_le (by simp <;> omega) hb1.size; clear hs hb1)
    | (go_at_call 89; refine (HT.out _).mono ?_; rintro e w2 ⟨rfl, hb2⟩; obtain ⟨hc2, hf2⟩ := bcell hb2; have HB2 := Lib.hid hb2; have hz2 : w.heap.size < w2.heap.size := Nat.lt_of_lt_of_le hz1 hb2.size; have hy2 : w.heap.size + 1 < w2.heap.size := Nat.lt_of_lt_of_le hy1 hb2.size; clear hb2))
  go_ret
  exact ⟨rfl, below_new ((below_new HB1.out).trans (HB2.out.mono (below_new HB1.out).size))⟩
theorem nm_add {P : Program} (nm : List UInt8) (hn : nm.length ≤ 10) (k : Nat) (hk : k < 100) (W : World) : (Op.stringOp .add (strS nm) (strS (digL k))).run P W = .ok (.string (strS (nm ++ digL k))) W := by
  have := digL_len20 k (by omega)
  rw [run_string_add_sum (P := P) W (strS nm) (strS (digL k)) (by rw [strS_size, strS_size]; omega), strS_append]
theorem kind_at (b : Nat) (W : World) (v : Nat) (hv : v = 2 ∨ v = 3 ∨ v = 4 ∨ v = 5) : (Instr.indexAt 123 (.pointer (some ⟨b, 0, none⟩)) (.int .i64 (v : Int))).run Tryd.prog W = .ok (.pointer (some ⟨b, v, none⟩)) W := by
  rw [run_indexAt_array _ 123 _ _ _ (by kernel_rfl)]
  rcases hv with rfl | rfl | rfl | rfl <;> kernel_rfl
theorem nameMark (l : Lay) (hl : l.Bd) (k : Int) (hk : 0 ≤ k ∧ k ≤ 200) (hv : l.c.variant = 2 ∨ l.c.variant = 3 ∨ l.c.variant = 4 ∨ l.c.variant = 5) (hn : decide (0 < l.cells ∧ 0 ≤ k ∧ k < l.cells) = true) (hm : l.marked k = true) (hs : k < l.slots) (h64 : k - l.marks < 64) (w : World) :
    Calls Tryd.prog 20 #[.agg l.vs.toArray, .int .i64 k] w fun e w' => e = .returned (.string (strS (kindT l.c.variant ++ digL (k - l.marks).toNat))) ∧ Below w.heap.size w w' := by
  have HM := Lib.hid (lmarked l hl k hk)
  have HT := Lib.hid (lthere l k)
  obtain ⟨n, hn2⟩ : ∃ n : Nat, k - l.marks = n := ⟨(k - l.marks).toNat, by unfold Lay.marked at hm; simp at hm; omega⟩
  have hn100 : n < 100 := by omega
  have HS := Lib.hid (wShow n hn100)
  have hadd1 : ∀ W, (Op.stringOp .add ⟨#[109, 97, 114, 107]⟩ (strS (digL n))).run Tryd.prog W = .ok (.string (strS (([109, 97, 114, 107] : List UInt8) ++ digL n))) W := fun W => nm_add _ (by decide) n hn100 W
  have hadd2 : ∀ W, (Op.stringOp .add ⟨#[115, 116, 97, 109, 112]⟩ (strS (digL n))).run Tryd.prog W = .ok (.string (strS (([115, 116, 97, 109, 112] : List UInt8) ++ digL n))) W := fun W => nm_add _ (by decide) n hn100 W
  have hadd3 : ∀ W, (Op.stringOp .add ⟨#[100, 111, 110, 101]⟩ (strS (digL n))).run Tryd.prog W = .ok (.string (strS (([100, 111, 110, 101] : List UInt8) ++ digL n))) W := fun W => nm_add _ (by decide) n hn100 W
  have hge : decide (l.slots ≤ k) = false := by simpa using hs
  rw [hn] at HT
  rw [hm, hn2] at HM
  rw [hn2]
  clear hn hm hs h64 hk hn2 hl hn100
  obtain ⟨⟨va, wi, ca, pr, st, ua, un, uc⟩, cu, cl, ti, se, ne, ma, sl, ce⟩ := l
  unfold Lay.vs at HM HT
  unfold Lay.vs
  dsimp only at *
  have hix2 := fun b W => kind_at b W 2 (.inl rfl)
  have hix3 := fun b W => kind_at b W 3 (.inr (.inl rfl))
  have hix4 := fun b W => kind_at b W 4 (.inr (.inr (.inl rfl)))
  have hix5 := fun b W => kind_at b W 5 (.inr (.inr (.inr rfl)))
  rcases hv with rfl | rfl | rfl | rfl
  all_goals
    go_enter Tryd.func20, Tryd.ntmps20
    go_wp2_with (first
      | (go_at_call 88; refine (HM.out _).mono ?_; rintro e w1 ⟨rfl, hb1⟩; obtain ⟨hc1, hf1⟩ := bcell hb1; have HB1 := Lib.hid hb1; have hz1 : w.heap.size < w1.heap.size := Nat.lt_of_lt_of_le (by simp <;> omega) hb1.size; have hy1 : w.heap.size + 1 < w1.heap.size := Nat.lt_of_lt_of_le (by simp <;> omega) hb1.size; clear hb1)
      | (go_at_call 89; refine (HT.out _).mono ?_; rintro e w2 ⟨rfl, hb2⟩; obtain ⟨hc2, hf2⟩ := bcell hb2; have HB2 := Lib.hid hb2; have hz2 : w.heap.size < w2.heap.size := Nat.lt_of_lt_of_le hz1 hb2.size; have hy2 : w.heap.size + 1 < w2.heap.size := Nat.lt_of_lt_of_le hy1 hb2.size; clear hb2))
    go_quiet (first | (go_at_call 90; refine Calls.quiet_of_same (HS.out _)))
    go_wp2_with fail
    go_ret
    exact ⟨by simp [kindT], below_drewN (below_new ((below_new HB1.out).trans (HB2.out.mono (below_new HB1.out).size))) _⟩
end Go.Proofs.YtnkmlopjinihiaaDoor
