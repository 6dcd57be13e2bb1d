/- sakialaw11: live, and LayoutNone: a layout that no call made has nothing. -/
import Derived.Test.YtnkmlopjinihiaaDoorName
import Derived.Test.YtnkmlopjinihiaaDoorLocked
import Derived.Test.YtnkmlopjinihiaaDoorLayOf
namespace Go.Proofs.YtnkmlopjinihiaaDoor
open Go.RowKit
set_option linter.unusedVariables false
set_option linter.unusedSimpArgs false
set_option maxHeartbeats 2000000

def lay11 (A : Option Addr) (c : Nat) : Lay := ⟨⟨5, 32, 2, 1, 4294967294, A, 1, c⟩, -1, -1, 1, 2, 3, 4, 6, 8⟩
def vs11 (A : Option Addr) (c : Nat) : Array Value := #[.int .i64 5, .int .i64 32, .int .i64 2, .int .i64 1, .int .u64 4294967294, .slice A 1 c, .int .i64 (-1), .int .i64 (-1), .int .i64 1, .int .i64 2, .int .i64 3, .int .i64 4, .int .i64 6, .int .i64 8]
theorem mk11 (A : Option Addr) (c : Nat) : mkLay ⟨5, 32, 2, 1, 4294967294, A, 1, c⟩ = lay11 A c := rfl
theorem lay11_vs (A : Option Addr) (c : Nat) : (lay11 A c).vs.toArray = vs11 A c := rfl
theorem ok11 (ua : Option Addr) (uc : Nat) : CfOk ⟨5, 32, 2, 1, 4294967294, ua, 1, uc⟩ [[]] :=
  ⟨by show (1 : Int) ≤ 5 ∧ (5 : Int) ≤ 5; omega, .inl rfl, .inl rfl, ⟨Int.le_refl 1, show (1 : Int) ≤ 4 by decide⟩, fun _ => rfl, upOk_one⟩
theorem bd11 (A : Option Addr) (c : Nat) : (lay11 A c).Bd :=
  ⟨show (0 : Int) ≤ 2 ∧ (2 : Int) ≤ 64 by decide, show 1 ≤ 6 by decide, show (-1 : Int) ≤ 4 ∧ (4 : Int) ≤ 200 by decide, show (0 : Int) ≤ 6 ∧ (6 : Int) ≤ 200 by decide⟩
def lay0 : Lay := ⟨⟨0, 0, 0, 0, 0, none, 0, 0⟩, 0, 0, 0, 0, 0, 0, 0, 0⟩
def vs0 : Array Value := #[.int .i64 0, .int .i64 0, .int .i64 0, .int .i64 0, .int .u64 0, .slice none 0 0, .int .i64 0, .int .i64 0, .int .i64 0, .int .i64 0, .int .i64 0, .int .i64 0, .int .i64 0, .int .i64 0]
theorem lay0_vs : lay0.vs.toArray = vs0 := rfl
theorem bd0 : lay0.Bd :=
  ⟨show (0 : Int) ≤ 0 ∧ (0 : Int) ≤ 64 by decide, show 0 ≤ 6 by decide, show (-1 : Int) ≤ 0 ∧ (0 : Int) ≤ 200 by decide, show (0 : Int) ≤ 0 ∧ (0 : Int) ≤ 200 by decide⟩
theorem there0 (k : Int) : decide (0 < lay0.cells ∧ 0 ≤ k ∧ k < lay0.cells) = false := decide_eq_false (fun h => absurd h.1 (by decide))
theorem of11 (Bk : Nat → Prop) (ua : Option Addr) (uc : Nat) (w : World) (hB : ∀ b, Bk b → b < w.heap.size) (hU : UpAt w Bk ua [[]]) :
    Calls Tryd.prog 17 #[.agg #[.int .i64 5, .int .i64 32, .int .i64 2, .int .i64 1, .int .u64 4294967294, .slice ua 1 uc]] w fun e w' => ∃ A c, e = .returned (.tuple #[.agg (vs11 A c), .int .i64 0]) ∧ Below w.heap.size w w' := by
  refine (layof Bk ⟨5, 32, 2, 1, 4294967294, ua, 1, uc⟩ [[]] rfl (ok11 ua uc) (by simp) w hB hU).mono ?_
  rintro e w' ⟨A, c, rfl, _, _, hb⟩
  exact ⟨A, c, by rw [← lay11_vs, ← mk11], hb⟩
theorem nm11 (A : Option Addr) (c : Nat) (w : World) : Calls Tryd.prog 20 #[.agg (vs11 A c), .int .i64 5] w fun e w' => e = .returned (.string ⟨#[100, 111, 110, 101, 49]⟩) ∧ Below w.heap.size w w' := by
  have h := nameMark (lay11 A c) (bd11 A c) 5 (by decide) (.inr (.inr (.inr rfl))) (by rfl) (by rfl) (show (5 : Int) < 6 by decide) (show (5 : Int) - 4 < 64 by decide) w
  have hn : strS (kindT (lay11 A c).c.variant ++ digL (5 - (lay11 A c).marks).toNat) = ⟨#[100, 111, 110, 101, 49]⟩ := by
    show strS (kindT 5 ++ digL 1) = _
    rw [digL, dif_pos (by omega)]
    rfl
  rw [hn, lay11_vs] at h
  exact h
theorem kd11 (A : Option Addr) (c : Nat) (k r : Int) (hr : (lay11 A c).kind k = r) (w : World) : Calls Tryd.prog 45 #[.agg (vs11 A c), .int .i64 k] w fun e w' => e = .returned (.int .i64 r) ∧ Below w.heap.size w w' := by
  have h := lkind (lay11 A c) k w
  rw [hr, lay11_vs] at h
  exact h
set_option maxRecDepth 100000 in
theorem live11 (w : World) : Calls Tryd.prog 16 #[] w fun e w' => e = .returned (.bool true) ∧ Below w.heap.size w w' := by
  have HO := Lib.hid of11
  have HP := Lib.hid plainC
  have HN := Lib.hid nm11
  have HK3 := Lib.hid (fun A c => kd11 A c 3 2 rfl)
  have HK7 := Lib.hid (fun A c => kd11 A c 7 3 rfl)
  unfold vs11 at HO HN HK3 HK7
  go_enter Tryd.func16, Tryd.ntmps16
  go_wp2_with (first
    | (go_at_call 83; refine (HP.out _).mono ?_; rintro e w1 ⟨A, c, rfl, hU, hc, hb1⟩; unfold plainVs; have HU := Lib.hid hU; have HB1 := Lib.hid hb1; have hz1 := hb1.size; clear hU hb1)
    | (go_at_call 17; refine (HO.out (fun b => w.heap.size ≤ b ∧ b < w1.heap.size) A c _ (by intro b hb; simp; omega) (HU.out.below (B := w1.heap.size) (by (repeat (with_reducible first | exact Below.refl _ _ | refine Below.drew ?_ | refine below_drewN ?_ _ | refine Below.setCell ?_ ?_ _ | refine Below.alloc ?_ ?_ _)); all_goals first | omega | (dsimp only; omega) | (simp; omega)) (fun b hb => hb.2))).mono ?_; rintro e w2 ⟨A2, c2, rfl, hb2⟩; have hz2 : w1.heap.size < w2.heap.size := Nat.lt_of_lt_of_le (by simp) hb2.size; have HW2 := Lib.hid (HB1.out.trans ((Below.trans (by (repeat (with_reducible first | exact Below.refl _ _ | refine Below.drew ?_ | refine below_drewN ?_ _ | refine Below.setCell ?_ ?_ _ | refine Below.alloc ?_ ?_ _)); all_goals first | omega | (dsimp only; omega) | (simp; omega)) (hb2.mono (by simp))).mono HB1.out.size)); clear hb2)
    | (go_at_call 20; refine (HN.out A2 c2 _).mono ?_; rintro e w3 ⟨rfl, hb3⟩; obtain ⟨hc3, hf3⟩ := bcell hb3; have HB3 := Lib.hid hb3; have hz3 : w2.heap.size < w3.heap.size := Nat.lt_of_lt_of_le (by simp) hb3.size; clear hb3)
    | (go_at_call 45; have _ := hc4; refine (HK7.out A2 c2 _).mono ?_; rintro e w5 ⟨rfl, hb5⟩; have HB5 := Lib.hid hb5; clear hb5)
    | (go_at_call 45; refine (HK3.out A2 c2 _).mono ?_; rintro e w4 ⟨rfl, hb4⟩; obtain ⟨hc4, hf4⟩ := bcell hb4; have HB4 := Lib.hid hb4; have hz4 : w2.heap.size < w4.heap.size := Nat.lt_of_lt_of_le hz3 hb4.size; clear hb4))
  go_ret
  have h2 := below_new (HB3.out.trans ((HB4.out.trans (HB5.out.mono HB4.out.size)).mono HB3.out.size))
  exact ⟨rfl, HW2.out.trans (h2.mono HW2.out.size)⟩
theorem gate0 (i : Int) (w : World) : Calls Tryd.prog 24 #[.agg vs0, .int .i64 i] w fun e w' => e = .returned (.int .i64 (-1)) ∧ Below w.heap.size w w' := lgate lay0 bd0 i w
theorem mark0 (i : Int) (w : World) : Calls Tryd.prog 25 #[.agg vs0, .int .i64 i] w fun e w' => e = .returned (.int .i64 (-1)) ∧ Below w.heap.size w w' := lmark lay0 bd0 i w
theorem slot0 (i : Int) (w : World) : Calls Tryd.prog 26 #[.agg vs0, .int .i64 i] w fun e w' => e = .returned (.int .i64 (-1)) ∧ Below w.heap.size w w' := lslotOf lay0 bd0 i w
theorem kind0 (i : Int) (w : World) : Calls Tryd.prog 45 #[.agg vs0, .int .i64 i] w fun e w' => e = .returned (.int .i64 0) ∧ Below w.heap.size w w' := lkind lay0 i w
theorem name0 (i : Int) (hi : -9223372036854775808 ≤ i ∧ i ≤ 9223372036854775807) (w : World) : Calls Tryd.prog 20 #[.agg vs0, .int .i64 i] w fun e w' => e = .returned (.string ⟨#[]⟩) ∧ Below w.heap.size w w' := nameNot lay0 bd0 i hi (there0 i) w
theorem first0 (i : Int) (w : World) : Calls Tryd.prog 47 #[.agg vs0, .int .i64 i] w fun e w' => e = .returned (.int .u64 0) ∧ Below w.heap.size w w' := by
  have HT := Lib.hid (lthere lay0 i)
  rw [there0, lay0_vs] at HT
  unfold vs0 at HT
  unfold vs0
  go_enter Tryd.func47, Tryd.ntmps47
  go_wp2_with (go_at_call 89; refine (HT.out _).mono ?_; rintro e w2 ⟨rfl, hb2⟩; have HB2 := Lib.hid hb2; clear hb2)
  go_ret
  exact ⟨rfl, below_new HB2.out⟩
theorem find0 (s : ByteArray) (w : World) : Calls Tryd.prog 19 #[.agg vs0, .string s] w fun e w' => e = .returned (.tuple #[.int .i64 0, .bool false]) ∧ Below w.heap.size w w' := by
  unfold vs0
  go_enter Tryd.func19, Tryd.ntmps19
  go_wp2_with fail
  go_loop [10] (fun i => i = .int .i64 0) (fun i => 0)
  case atStart => rfl
  case round =>
    obtain rfl := hrel
    go_wp2_with fail
    go_ret2
    exact ⟨rfl, (Below.refl _ _).alloc (Nat.le_refl _) _⟩
theorem layoutNone_any (i : Int) (hi : -9223372036854775808 ≤ i ∧ i ≤ 9223372036854775807) (s : ByteArray) (w : World) : Calls Tryd.prog 9 #[.int .i64 i, .string s] w fun e w' => e = .returned (.bool true) ∧ Below w.heap.size w w' := by
  have HF := Lib.hid find0
  have HG := Lib.hid (gate0 i)
  have HM := Lib.hid (mark0 i)
  have HS := Lib.hid (slot0 i)
  have HK := Lib.hid (kind0 i)
  have HN := Lib.hid (name0 i hi)
  have HI := Lib.hid (first0 i)
  have HL := Lib.hid live11
  clear hi
  unfold vs0 at HF HG HM HS HK HN HI
  go_enter Tryd.func9, Tryd.ntmps9
  go_wp2_with (first
    | (go_at_call 19; refine (HF.out _ _).mono ?_; rintro e w1 ⟨rfl, hb⟩; obtain ⟨hc1, hf1⟩ := bcell hb; have HB1 := Lib.hid hb; have hz1 : w.heap.size < w1.heap.size := Nat.lt_of_lt_of_le (by simp) hb.size; clear hb)
    | (go_at_call 24; refine (HG.out _).mono ?_; rintro e w2 ⟨rfl, hb⟩; obtain ⟨hc2, hf2⟩ := bcell hb; have HB2 := Lib.hid hb; have hz2 : w.heap.size < w2.heap.size := Nat.lt_of_lt_of_le hz1 hb.size; clear hb)
    | (go_at_call 25; refine (HM.out _).mono ?_; rintro e w3 ⟨rfl, hb⟩; obtain ⟨hc3, hf3⟩ := bcell hb; have HB3 := Lib.hid hb; have hz3 : w.heap.size < w3.heap.size := Nat.lt_of_lt_of_le hz2 hb.size; clear hb)
    | (go_at_call 26; refine (HS.out _).mono ?_; rintro e w4 ⟨rfl, hb⟩; obtain ⟨hc4, hf4⟩ := bcell hb; have HB4 := Lib.hid hb; have hz4 : w.heap.size < w4.heap.size := Nat.lt_of_lt_of_le hz3 hb.size; clear hb)
    | (go_at_call 45; refine (HK.out _).mono ?_; rintro e w5 ⟨rfl, hb⟩; obtain ⟨hc5, hf5⟩ := bcell hb; have HB5 := Lib.hid hb; have hz5 : w.heap.size < w5.heap.size := Nat.lt_of_lt_of_le hz4 hb.size; clear hb)
    | (go_at_call 47; refine (HI.out _).mono ?_; rintro e w6 ⟨rfl, hb⟩; obtain ⟨hc6, hf6⟩ := bcell hb; have HB6 := Lib.hid hb; have hz6 : w.heap.size < w6.heap.size := Nat.lt_of_lt_of_le hz5 hb.size; clear hb)
    | (go_at_call 20; refine (HN.out _).mono ?_; rintro e w7 ⟨rfl, hb⟩; have HB7 := Lib.hid hb; clear hb)
    | (go_at_call 16; refine (HL.out _).mono ?_; rintro e w8 ⟨rfl, hb⟩; have HB8 := Lib.hid hb; clear hb))
  go_ret
  refine ⟨rfl, below_new (HB1.out.trans (Below.mono ?_ HB1.out.size))⟩
  refine HB2.out.trans (Below.mono ?_ HB2.out.size)
  refine HB3.out.trans (Below.mono ?_ HB3.out.size)
  refine HB4.out.trans (Below.mono ?_ HB4.out.size)
  refine HB5.out.trans (Below.mono ?_ HB5.out.size)
  refine HB6.out.trans (Below.mono ?_ HB6.out.size)
  exact HB7.out.trans (HB8.out.mono HB7.out.size)
end Go.Proofs.YtnkmlopjinihiaaDoor
