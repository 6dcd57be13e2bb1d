/- Contracts of mark's functions, for both widths. -/
import Derived.Test.YtnkmlopjinihiaaDoorMarkP
import Derived.Test.YtnkmlopjinihiaaDoorTurn
import Derived.Test.YtnkmlopjinihiaaDoorLap
namespace Go.Proofs.YtnkmlopjinihiaaDoor
open Go.RowKit
set_option linter.unusedVariables false
set_option linter.unusedSimpArgs false
set_option maxHeartbeats 2000000

theorem lay_eta (l : Lay) : l.vs = Lay.vs ⟨⟨l.c.variant, l.c.width, l.c.cap, l.c.producers, l.c.start, l.c.ua, l.c.un, l.c.uc⟩, l.cursor, l.claim, l.ticket, l.serving, l.next, l.marks, l.slots, l.cells⟩ := rfl
section
variable (w : World) (γ : Nat → Nat) (id p : Nat) (b : BS) (h : BoardAt 132 48 208 .u32 w γ id p b)
include h
theorem mkind32 : Calls Tryd.prog 202 #[.pointer (some ⟨p, 0, none⟩)] w fun e w' => e = .returned (.int .i64 (mkKind b.l.c.variant)) ∧ Below w.heap.size w w' := by
  have HL := Lib.hid (bLayout32 w γ id p b h)
  rw [lay_eta b.l] at HL
  unfold Lay.vs at HL
  clear h
  have hf1 := fld_conf
  have hf2 := fld_variant
  go_enter Tryd.func202, Tryd.ntmps202
  go_wp2_with (go_at_call 131; refine HL.out.mono ?_; rintro e w1 ⟨rfl, hb1⟩; have HB1 := Lib.hid hb1; clear hb1)
  all_goals go_ret
  all_goals refine ⟨ret_int ?_, HB1.out⟩
  all_goals clear hf1 hf2
  all_goals grind [mkKind]
theorem mhas32 : Calls Tryd.prog 184 #[.pointer (some ⟨p, 0, none⟩)] w fun e w' => e = .returned (.bool b.hasM) ∧ Below w.heap.size w w' := by
  have HL := Lib.hid (mkind32 w γ id p b h)
  clear h
  go_enter Tryd.func184, Tryd.ntmps184
  go_wp2_with (go_at_call 202; refine HL.out.mono ?_; rintro e w1 ⟨rfl, hb1⟩; have HB1 := Lib.hid hb1; clear hb1)
  all_goals go_ret
  all_goals refine ⟨ret_bool ?_, HB1.out⟩
  all_goals (unfold BS.hasM; by_cases h0 : mkKind b.l.c.variant = 0 <;> simp [h0])
omit h in
theorem mhasN32 : Calls Tryd.prog 184 #[.pointer none] w fun e w' => e = .returned (.bool false) ∧ w = w' := by
  go_enter Tryd.func184, Tryd.ntmps184
  go_wp2_with fail
  go_ret
  exact ⟨rfl, rfl⟩
theorem mcell32 (hf : b.Fit M32) (pos : Int) (hp : InM M32 pos) : Calls Tryd.prog 203 #[.pointer (some ⟨p, 0, none⟩), .int .u32 pos] w fun e w' => e = .returned (.tuple #[.int .i64 (b.mcell pos), .int .u32 (b.mround pos)]) ∧ Below w.heap.size w w' := by
  have HL := Lib.hid (bLayout32 w γ id p b h)
  have HM := Lib.hid (fun s => lmark b.l hf.ok.bd s)
  rw [lay_eta b.l] at HL HM
  unfold Lay.vs at HL HM
  have HC := Lib.hid hf.cap
  have HP := Lib.hid hp
  clear h hf hp
  have hf1 := fld_conf
  have hf2 := fld_cap
  go_enter Tryd.func203, Tryd.ntmps203
  go_wp2_with (go_at_call 131; refine HL.out.mono ?_; rintro e w1 ⟨rfl, hb1⟩; have HB1 := Lib.hid hb1; clear hb1)
  go_region_held3 (fun w' => w'.cell? ⟨w1.heap.size, 0, none⟩ = some (.int .i64 b.l.c.variant) ∧ w'.cell? ⟨w1.heap.size, 1, none⟩ = some (.int .i64 b.l.c.width) ∧ w'.cell? ⟨w1.heap.size, 2, none⟩ = some (.int .i64 b.l.c.cap) ∧ w'.cell? ⟨w1.heap.size, 3, none⟩ = some (.int .i64 b.l.c.producers) ∧ w'.cell? ⟨w1.heap.size, 4, none⟩ = some (.int .u64 b.l.c.start) ∧ w'.cell? ⟨w1.heap.size, 5, none⟩ = some (.slice b.l.c.ua b.l.c.un b.l.c.uc) ∧ w'.cell? ⟨w1.heap.size, 6, none⟩ = some (.int .i64 b.l.cursor) ∧ w'.cell? ⟨w1.heap.size, 7, none⟩ = some (.int .i64 b.l.claim) ∧ w'.cell? ⟨w1.heap.size, 8, none⟩ = some (.int .i64 b.l.ticket) ∧ w'.cell? ⟨w1.heap.size, 9, none⟩ = some (.int .i64 b.l.serving) ∧ w'.cell? ⟨w1.heap.size, 10, none⟩ = some (.int .i64 b.l.next) ∧ w'.cell? ⟨w1.heap.size, 11, none⟩ = some (.int .i64 b.l.marks) ∧ w'.cell? ⟨w1.heap.size, 12, none⟩ = some (.int .i64 b.l.slots) ∧ w'.cell? ⟨w1.heap.size, 13, none⟩ = some (.int .i64 b.l.cells))
    (go_keep)
    (first
    | (go_at_call 183; refine (lapslot32 _ _ HC.out HP.out _).mono ?_; rintro e w' ⟨rfl, rfl⟩)
    | (go_at_call 175; refine (lapround32 _ _ HC.out HP.out _).mono ?_; rintro e w' ⟨rfl, n, rfl⟩)
    | (go_at_call 25; refine (HM.out _ _).mono ?_; rintro e w2 ⟨rfl, hb2⟩; obtain ⟨hc2, hf2⟩ := bcell hb2; have HB2 := Lib.hid hb2; clear hb2))
  go_wp2_with fail
  go_ret2
  refine ⟨rfl, ?_⟩
  have hx := ((((Below.refl w1.heap.size w1).alloc (Nat.le_refl _) _).drew).trans (HB2.out.mono (by simp)))
  have hy := HB1.out.trans (hx.mono HB1.out.size)
  first | exact hy | exact below_drewN hy _
theorem mlook32 (hf : b.Fit M32) (hlen : b.log.length ≤ 1000000) (t : Int) (pos : Int) (hp : InM M32 pos) : Calls Tryd.prog 187 #[.pointer (some ⟨p, 0, none⟩), .int .i64 t, .int .u32 pos] w
    (MutEnd 132 48 208 .u32 w γ id p (.bool (b.mlook t pos).1) (b.mlook t pos).2) := by
  have HC := Lib.hid (mcell32 w γ id p b h hf pos hp)
  have HK := Lib.hid (fun W (hW : Below w.heap.size w W) => mkind32 W γ id p b (h.below hW))
  have HR := Lib.hid (fun W (hW : Below w.heap.size w W) => bRead32 W γ id p b (h.below hW) hf.ok hlen t (b.mcell pos))
  have HL := Lib.hid (fun W (hW : Below w.heap.size w W) => bLoad32 W γ id p b (h.below hW) hf.ok hlen t (b.mcell pos))
  clear h hf hp hlen
  unfold BS.mlook
  by_cases hk : mkKind b.l.c.variant = 2
  · rw [if_pos hk]
    rw [hk] at HK
    go_enter Tryd.func187, Tryd.ntmps187
    go_wp2_with (first
      | (go_at_call 203; refine HC.out.mono ?_; rintro e w1 ⟨rfl, hb1⟩; have HB1 := Lib.hid hb1; clear hb1)
      | (go_at_call 202; refine (HK.out _ HB1.out).mono ?_; rintro e w2 ⟨rfl, hb2⟩; have HB2 := Lib.hid (HB1.out.trans (hb2.mono HB1.out.size)); clear hb2)
      | (go_at_call 148; refine (HR.out _ HB2.out).mono ?_; rintro e w3 ⟨rfl, γ', hB, hfr⟩; have HB := Lib.hid hB; have HFR := Lib.hid hfr; clear hB hfr))
    go_ret
    exact MutEnd.from_ HB2.out ⟨ret_bool rfl, γ', HB.out, HFR.out⟩
  · rw [if_neg hk]
    go_enter Tryd.func187, Tryd.ntmps187
    go_wp2_with (first
      | (go_at_call 203; refine HC.out.mono ?_; rintro e w1 ⟨rfl, hb1⟩; have HB1 := Lib.hid hb1; clear hb1)
      | (go_at_call 202; refine (HK.out _ HB1.out).mono ?_; rintro e w2 ⟨rfl, hb2⟩; have HB2 := Lib.hid (HB1.out.trans (hb2.mono HB1.out.size)); clear hb2)
      | (go_at_call 104; refine (HL.out _ HB2.out).mono ?_; rintro e w3 ⟨rfl, γ', hB, hfr⟩; have HB := Lib.hid hB; have HFR := Lib.hid hfr; clear hB hfr))
    go_ret
    exact MutEnd.from_ HB2.out ⟨ret_bool rfl, γ', HB.out, HFR.out⟩
theorem mlay32 (hf : b.Fit M32) (hlen : b.log.length ≤ 1000000) (t : Int) (pos : Int) (hp : InM M32 pos) : Calls Tryd.prog 186 #[.pointer (some ⟨p, 0, none⟩), .int .i64 t, .int .u32 pos] w
    (MutEnd 132 48 208 .u32 w γ id p (.tuple #[]) (b.mlay t pos)) := by
  have HC := Lib.hid (mcell32 w γ id p b h hf pos hp)
  have HK := Lib.hid (fun W (hW : Below w.heap.size w W) => mkind32 W γ id p b (h.below hW))
  have HR := Lib.hid (fun W (hW : Below w.heap.size w W) => bWrite32 W γ id p b (h.below hW) hf.ok hlen t (b.mcell pos) _ (hf.mround hp))
  have HL := Lib.hid (fun W (hW : Below w.heap.size w W) => bStore32 W γ id p b (h.below hW) hf.ok hlen t (b.mcell pos) _ (hf.mround hp))
  clear h hf hp hlen
  unfold BS.mlay
  by_cases hk : mkKind b.l.c.variant = 2
  · rw [if_pos hk]
    rw [hk] at HK
    go_enter Tryd.func186, Tryd.ntmps186
    go_wp2_with (first
      | (go_at_call 203; refine HC.out.mono ?_; rintro e w1 ⟨rfl, hb1⟩; have HB1 := Lib.hid hb1; clear hb1)
      | (go_at_call 202; refine (HK.out _ HB1.out).mono ?_; rintro e w2 ⟨rfl, hb2⟩; have HB2 := Lib.hid (HB1.out.trans (hb2.mono HB1.out.size)); clear hb2)
      | (go_at_call 150; refine (HR.out _ HB2.out).mono ?_; rintro e w3 ⟨rfl, γ', hB, hfr⟩; have HB := Lib.hid hB; have HFR := Lib.hid hfr; clear hB hfr))
    first | go_end0 | refine bodyPost_ret (results_none rfl _ _ _) rfl ?_
    exact MutEnd.from_ HB2.out ⟨rfl, γ', HB.out, HFR.out⟩
  · rw [if_neg hk]
    go_enter Tryd.func186, Tryd.ntmps186
    go_wp2_with (first
      | (go_at_call 203; refine HC.out.mono ?_; rintro e w1 ⟨rfl, hb1⟩; have HB1 := Lib.hid hb1; clear hb1)
      | (go_at_call 202; refine (HK.out _ HB1.out).mono ?_; rintro e w2 ⟨rfl, hb2⟩; have HB2 := Lib.hid (HB1.out.trans (hb2.mono HB1.out.size)); clear hb2)
      | (go_at_call 31; refine (HL.out _ HB2.out).mono ?_; rintro e w3 ⟨rfl, γ', hB, hfr⟩; have HB := Lib.hid hB; have HFR := Lib.hid hfr; clear hB hfr))
    first | go_end0 | refine bodyPost_ret (results_none rfl _ _ _) rfl ?_
    exact MutEnd.from_ HB2.out ⟨rfl, γ', HB.out, HFR.out⟩
end
section
variable (w : World) (γ : Nat → Nat) (id p : Nat) (b : BS) (h : BoardAt 142 22 208 .u64 w γ id p b)
include h
end
end Go.Proofs.YtnkmlopjinihiaaDoor
