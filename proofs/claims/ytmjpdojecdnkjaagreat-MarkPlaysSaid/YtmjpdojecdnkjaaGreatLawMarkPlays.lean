/- sakialaw17.MarkPlays returns true for every input, and changes nothing. -/
import Derived.Test.YtmjpdojecdnkjaaGreatMarkPlays
import Derived.Test.YtmjpdojecdnkjaaGreatLive17
import Derived.Test.YtmjpdojecdnkjaaGreatOpenD
import Derived.Test.YtmjpdojecdnkjaaGreatRows
namespace Go.Proofs.YtmjpdojecdnkjaaGreat
open Go.RowKit
set_option linter.unusedVariables false
set_option maxHeartbeats 400000
section
set_option linter.unusedSimpArgs false
set_option maxHeartbeats 4000000

section
variable (w0 : World)
set_option maxRecDepth 100000 in
theorem markPlays_any (c : Cf) (up : List (List Int)) (hun : c.un = up.length) (hU : UpAt w0 (fun b => b < w0.heap.size) c.ua up) (hlen : up.length ≤ maxLen) (hll : ∀ l ∈ up, l.length ≤ maxLen) (hst : 0 ≤ c.start ∧ c.start ≤ 18446744073709551615)
    (A : Option Addr) (ds : List (List Int)) (xc : Nat) (hA : DosAt w0 (fun b => b < w0.heap.size) [IntKind.i64, IntKind.i64] A ds) (hd6 : ∀ d ∈ ds, d.length = [IntKind.i64, IntKind.i64].length ∧ ∀ (j : Nat) (k : IntKind) (x : Int), [IntKind.i64, IntKind.i64][j]? = some k → d[j]? = some x → (Lit.int k x).wf = true) (from_ : Int) :
    Calls Tryz.prog 5 #[.agg c.vs.toArray, .slice A ds.length xc, .int .i64 from_] w0 fun e w' => e = .returned (.bool true) ∧ Below w0.heap.size w0 w' := by
  have HV := Lib.hid live17
  have hlo := fun W (hW : Below w0.heap.size w0 W) => llongB _ up c.ua c.uc hlen hll W (hU.below hW (fun b hb => hb))
  by_cases hs : ShortUp up
  · have hsb : (!decide (ShortUp up)) = false := by simp [hs]
    simp only [hsb] at hlo
    have hll6 : ∀ l ∈ up, l.length ≤ 1000000 := fun l hl => by have := hs.2 l hl; omega
    have hlen6 : up.length ≤ 1000000 := by have := hs.1; omega
    by_cases hxl : 60 < ds.length
    · have hxi : (60 : Int) < ds.length := by omega
      obtain ⟨variant, width, cap, producers, start, ua, un, uc⟩ := c
      unfold Cf.vs at *
      dsimp only at *
      subst hun
      have HLO := Lib.hid hlo
      clear hlo hU hll hlen hll6 hlen6 hs hsb hst hxl hA hd6
      go_enter Tryz.func5, Tryz.ntmps5
      go_wp2_with (first | (go_at_call 6; refine (HLO.out _ (by (repeat (with_reducible first | exact Below.refl _ _ | refine Below.drew ?_ | refine below_drewN ?_ _ | refine Below.setCell ?_ ?_ _ | refine Below.alloc ?_ ?_ _)); all_goals first | omega | (dsimp only; omega) | (simp; omega))).mono ?_; rintro e w' ⟨rfl, rfl⟩) | (go_at_call 21; refine (HV.out _).mono ?_; rintro e w9 ⟨rfl, hb9⟩; have HB9 := Lib.hid hb9; clear hb9))
      go_ret
      exact ⟨rfl, below_new HB9.out⟩
    · have hri := fun W (hW : Below w0.heap.size w0 W) => rrightOf _ c up hun hlen6 hll6 W (fun b hb => Nat.lt_of_lt_of_le hb hW.size) (hU.below hW (fun b hb => hb))
      have hxi : ¬ (60 : Int) < ds.length := by omega
      by_cases hc : confCode c up = 0
      · have hok := cfOk_of_code hc
        simp only [show (confCode c up == 0) = true by simp [hc]] at hri
        have hwd := hok.width
        by_cases hwid : c.width = 32
        · have hpl := fun W (hW : Below w0.heap.size w0 W) => played17_32 c up hun hok hll6 hst hwid ds hd6 (by omega) A xc from_ W ((hU.below hW (fun b hb => hb)).mono (fun b hb => Nat.lt_of_lt_of_le hb hW.size)) ((hA.below hW (fun b hb => hb)).mono (fun b hb => Nat.lt_of_lt_of_le hb hW.size))
          obtain ⟨variant, width, cap, producers, start, ua, un, uc⟩ := c
          unfold Cf.vs at *
          dsimp only at *
          subst hun
          subst hwid
          have HLO := Lib.hid hlo
          have HRI := Lib.hid hri
          have HPL := Lib.hid hpl
          clear hlo hri hpl hU hll hlen hll6 hlen6 hs hsb hst hc hok hwd hA hd6
          go_enter Tryz.func5, Tryz.ntmps5
          go_wp2_with (first | (go_at_call 6; refine (HLO.out _ (by (repeat (with_reducible first | exact Below.refl _ _ | refine Below.drew ?_ | refine below_drewN ?_ _ | refine Below.setCell ?_ ?_ _ | refine Below.alloc ?_ ?_ _)); all_goals first | omega | (dsimp only; omega) | (simp; omega))).mono ?_; rintro e w' ⟨rfl, rfl⟩) | (go_at_call 7; refine (HRI.out _ (by (repeat (with_reducible first | exact Below.refl _ _ | refine Below.drew ?_ | refine below_drewN ?_ _ | refine Below.setCell ?_ ?_ _ | refine Below.alloc ?_ ?_ _)); all_goals first | omega | (dsimp only; omega) | (simp; omega))).mono ?_; rintro e w2 ⟨rfl, hb2⟩; obtain ⟨hc2, hf2⟩ := bcell hb2; have hz2 := hb2.size; have HCF2 := Lib.hid ((Blk.new w0 25 _).below hb2 (by simp)); have HB2 := Lib.hid hb2; clear hb2) | (go_at_call 22; have hq := HPL.out _ (((Below.refl w0.heap.size w0).alloc (Nat.le_refl _) _).trans (HB2.out.mono (by simp))); refine hq.mono ?_; clear hq; rintro e w3 ⟨rfl, hb3⟩; have HB3 := Lib.hid (HB2.out.trans (hb3.mono HB2.out.size)); clear hb3) | (go_at_call 21; refine (HV.out _).mono ?_; rintro e w9 ⟨rfl, hb9⟩; have HB9 := Lib.hid hb9; clear hb9))
          go_ret
          exact ⟨rfl, below_new (HB3.out.trans (HB9.out.mono HB3.out.size))⟩
        · have hw64 : c.width = 64 := by omega
          clear hwid
          have hpl := fun W (hW : Below w0.heap.size w0 W) => played17_64 c up hun hok hll6 hst hw64 ds hd6 (by omega) A xc from_ W ((hU.below hW (fun b hb => hb)).mono (fun b hb => Nat.lt_of_lt_of_le hb hW.size)) ((hA.below hW (fun b hb => hb)).mono (fun b hb => Nat.lt_of_lt_of_le hb hW.size))
          obtain ⟨variant, width, cap, producers, start, ua, un, uc⟩ := c
          unfold Cf.vs at *
          dsimp only at *
          subst hun
          subst hw64
          have HLO := Lib.hid hlo
          have HRI := Lib.hid hri
          have HPL := Lib.hid hpl
          clear hlo hri hpl hU hll hlen hll6 hlen6 hs hsb hst hc hok hwd hA hd6
          go_enter Tryz.func5, Tryz.ntmps5
          go_wp2_with (first | (go_at_call 6; refine (HLO.out _ (by (repeat (with_reducible first | exact Below.refl _ _ | refine Below.drew ?_ | refine below_drewN ?_ _ | refine Below.setCell ?_ ?_ _ | refine Below.alloc ?_ ?_ _)); all_goals first | omega | (dsimp only; omega) | (simp; omega))).mono ?_; rintro e w' ⟨rfl, rfl⟩) | (go_at_call 7; refine (HRI.out _ (by (repeat (with_reducible first | exact Below.refl _ _ | refine Below.drew ?_ | refine below_drewN ?_ _ | refine Below.setCell ?_ ?_ _ | refine Below.alloc ?_ ?_ _)); all_goals first | omega | (dsimp only; omega) | (simp; omega))).mono ?_; rintro e w2 ⟨rfl, hb2⟩; obtain ⟨hc2, hf2⟩ := bcell hb2; have hz2 := hb2.size; have HCF2 := Lib.hid ((Blk.new w0 25 _).below hb2 (by simp)); have HB2 := Lib.hid hb2; clear hb2) | (go_at_call 23; have hq := HPL.out _ (((Below.refl w0.heap.size w0).alloc (Nat.le_refl _) _).trans (HB2.out.mono (by simp))); refine hq.mono ?_; clear hq; rintro e w3 ⟨rfl, hb3⟩; have HB3 := Lib.hid (HB2.out.trans (hb3.mono HB2.out.size)); clear hb3) | (go_at_call 21; refine (HV.out _).mono ?_; rintro e w9 ⟨rfl, hb9⟩; have HB9 := Lib.hid hb9; clear hb9))
          go_ret
          exact ⟨rfl, below_new (HB3.out.trans (HB9.out.mono HB3.out.size))⟩
      · simp only [show (confCode c up == 0) = false by simp [hc]] at hri
        obtain ⟨variant, width, cap, producers, start, ua, un, uc⟩ := c
        unfold Cf.vs at *
        dsimp only at *
        subst hun
        have HLO := Lib.hid hlo
        have HRI := Lib.hid hri
        clear hlo hri hU hll hlen hll6 hlen6 hs hsb hst hc hA hd6
        go_enter Tryz.func5, Tryz.ntmps5
        go_wp2_with (first | (go_at_call 6; refine (HLO.out _ (by (repeat (with_reducible first | exact Below.refl _ _ | refine Below.drew ?_ | refine below_drewN ?_ _ | refine Below.setCell ?_ ?_ _ | refine Below.alloc ?_ ?_ _)); all_goals first | omega | (dsimp only; omega) | (simp; omega))).mono ?_; rintro e w' ⟨rfl, rfl⟩) | (go_at_call 7; refine (HRI.out _ (by (repeat (with_reducible first | exact Below.refl _ _ | refine Below.drew ?_ | refine below_drewN ?_ _ | refine Below.setCell ?_ ?_ _ | refine Below.alloc ?_ ?_ _)); all_goals first | omega | (dsimp only; omega) | (simp; omega))).mono ?_; rintro e w2 ⟨rfl, hb2⟩; obtain ⟨hc2, hf2⟩ := bcell hb2; have hz2 := hb2.size; have HCF2 := Lib.hid ((Blk.new w0 25 _).below hb2 (by simp)); have HB2 := Lib.hid hb2; clear hb2) | (go_at_call 21; refine (HV.out _).mono ?_; rintro e w9 ⟨rfl, hb9⟩; have HB9 := Lib.hid hb9; clear hb9))
        go_ret
        exact ⟨rfl, below_new (HB2.out.trans (HB9.out.mono HB2.out.size))⟩
  · simp only [show (!decide (ShortUp up)) = true by simp [hs]] at hlo
    obtain ⟨variant, width, cap, producers, start, ua, un, uc⟩ := c
    unfold Cf.vs at *
    dsimp only at *
    subst hun
    have HLO := Lib.hid hlo
    clear hlo hU hll hlen hs hst hA hd6
    go_enter Tryz.func5, Tryz.ntmps5
    go_wp2_with (first | (go_at_call 6; refine (HLO.out _ (by (repeat (with_reducible first | exact Below.refl _ _ | refine Below.drew ?_ | refine below_drewN ?_ _ | refine Below.setCell ?_ ?_ _ | refine Below.alloc ?_ ?_ _)); all_goals first | omega | (dsimp only; omega) | (simp; omega))).mono ?_; rintro e w' ⟨rfl, rfl⟩) | (go_at_call 21; refine (HV.out _).mono ?_; rintro e w9 ⟨rfl, hb9⟩; have HB9 := Lib.hid hb9; clear hb9))
    go_ret
    exact ⟨rfl, below_new HB9.out⟩
end
end

namespace lawMarkPlays
open Go.ChangeShapes Go.WideShapes Go.ChangeAt Go.RowKit
theorem own : ownKnob Tryz.prog.godebug = none := by kernel_rfl
theorem laidOut : laidOutB Tryz.prog = true := by kernel_rfl
set_option maxRecDepth 100000 in
theorem lifted (os : Os) (started : os.Started) (H : Type) (enc : TypeId × Value → H) :
    ReturnsInHanded {} Tryz.checked os 5 .any (Rows.markPlaysSpec.pre6 enc Tryz.prog Tryz.f5 Rows.markPlaysRow.domain false) (Rows.markPlaysSpec.post enc Tryz.prog Tryz.f5 false true false false) := by
  refine returnsInHanded_of_change (C := Tryz.checked) own started (by kernel_rfl) Tryz.func5
    (ChangeSpec.witness6 (enc := enc) (C := Tryz.checked) false ⟨#[], #[.agg #[.int .i64 0, .int .i64 0, .int .i64 0, .int .i64 0, .int .u64 0, .slice none 0 0], .slice none 0 0, .int .i64 0], []⟩ 8 (by kernel_rfl) (by kernel_rfl) (by kernel_rfl) (by kernel_rfl)) ?_
  intro W base args ds gs before hval0 hW hcnd _
  have hval : ∀ (j : Nat) t v, Tryz.f5.params[j]? = some t → args[j]? = some v → Value.okWide Tryz.prog W .any base t v := hval0
  have hW' := hW
  obtain ⟨p, q, hA0, hV, rfl, hfz, hnd⟩ := hW
  have hA : DataW.TrodAll enc Tryz.prog W 0 (fun _ => true) true Tryz.f5.params.toList args.toList ds p := hA0
  rw [Tryz.params5] at hA hval
  obtain ⟨v0, vs0, d0, ds0, p0, q0, hargs, rfl, rfl, h0, r0⟩ := trodAll_cons hA
  obtain ⟨v1, vs1, d1, ds1, p1, q1, rfl, rfl, rfl, h1, r1⟩ := trodAll_cons r0
  obtain ⟨v2, vs2, d2, ds2, p2, q2, rfl, rfl, rfl, h2, r2⟩ := trodAll_cons r1
  obtain ⟨rfl, rfl, rfl⟩ := trodAll_nil r2
  obtain rfl : args = #[v0, v1, v2] := by cases args; simp_all
  obtain ⟨rfl, rfl⟩ := trodVars_none hV
  have k0 := h0
  have lt0 : ∀ x ∈ p0, x.block < W.heap.size := by obtain ⟨m, hm⟩ := k0; exact DataW.trod_lt m _ _ _ hm
  obtain ⟨c0, up0, H0⟩ := open_conf (hval 0 25 v0 rfl rfl) h0
  have hv0 := H0.val
  subst hv0
  have k1 := h1
  have lt1 : ∀ x ∈ p1, x.block < W.heap.size := by obtain ⟨m, hm⟩ := k1; exact DataW.trod_lt m _ _ _ hm
  obtain ⟨A1, rs1, cap1, rfl, hk1, hw1, hl1⟩ := open_dos (ks := [.i64, .i64]) Tryz.underlying58 Tryz.underlying120 (by kernel_rfl) (by kernel_rfl) (by intro j k hj; match j, hj with | 0, hj => exact ⟨_, rfl, by rw [← Option.some.inj hj]; exact Tryz.underlying3⟩ | 1, hj => exact ⟨_, rfl, by rw [← Option.some.inj hj]; exact Tryz.underlying3⟩ | _ + 2, hj => exact absurd hj (by simp)) (by decide) (hval 1 58 v1 rfl rfl) h1
  have k2 := h2
  have lt2 : ∀ x ∈ p2, x.block < W.heap.size := by obtain ⟨m, hm⟩ := k2; exact DataW.trod_lt m _ _ _ hm
  obtain ⟨a2, rfl, rfl, rfl, w2⟩ := open_int Tryz.underlying3 (hval 2 3 v2 rfl rfl) h2
  clear hA0 hval0
  refine (markPlays_any W c0 up0 H0.un H0.upA H0.len H0.ll H0.b4 A1 rs1 cap1 hk1 hw1 a2).mono fun e W' ⟨he, bel⟩ => ?_
  subst he
  exact ⟨_, rfl, _, _, _, [], _, [], hW', trodAll_mk1 (shut_bool Tryz.underlying4 _), (trodAll_cons_mk (Below.trod laidOut (by kernel_rfl) (of_decide_eq_true (by kernel_rfl)) k0 bel lt0) (trodAll_cons_mk (Below.trod laidOut (by kernel_rfl) (of_decide_eq_true (by kernel_rfl)) k1 bel lt1) (trodAll_cons_mk (Below.trod laidOut (by kernel_rfl) (of_decide_eq_true (by kernel_rfl)) k2 bel lt2) trodAll_mk0))), rfl, bel.frame _, fun h => by cases h⟩

theorem over : Rows.markPlaysRow.holds Tryz.pinned (OpenSpec.ofChange Rows.markPlaysSpec) :=
  OpenClaim.holds_of_wide 5 Tryz.f5 rfl rfl rfl rfl rfl rfl rfl ⟨rfl, rfl, rfl, rfl, rfl⟩ rfl rfl rfl rfl rfl (by kernel_rfl) Tryz.func5 (by kernel_rfl)
    (of_decide_eq_true (by kernel_rfl)) (by unfold Func.isWrapper; rw [if_neg (by decide +kernel)]; exact ⟨rfl, rfl⟩)
    (fun os started H enc _ => lifted os started H enc)
end lawMarkPlays
/-- THE STATEMENT. -/
theorem markPlays_holds : Rows.MarkPlaysSaid := lawMarkPlays.over
#print axioms markPlays_holds
end Go.Proofs.YtmjpdojecdnkjaaGreat
