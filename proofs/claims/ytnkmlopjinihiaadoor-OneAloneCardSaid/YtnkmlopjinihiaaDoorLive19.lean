/- sakialaw19.live returns true, and changes nothing. -/
import Derived.Test.YtnkmlopjinihiaaDoorSeqNew
import Derived.Test.YtnkmlopjinihiaaDoorSeqH
import Derived.Test.YtnkmlopjinihiaaDoorCase19
import Derived.Test.YtnkmlopjinihiaaDoorLayOf
import Derived.Test.YtnkmlopjinihiaaDoorNew
import Derived.Test.YtnkmlopjinihiaaDoorGuard
import Derived.Test.YtnkmlopjinihiaaDoorLocked
import Derived.Test.YtnkmlopjinihiaaDoorTurnF
namespace Go.Proofs.YtnkmlopjinihiaaDoor
open Go.RowKit
set_option linter.unusedVariables false
set_option linter.unusedSimpArgs false
set_option maxHeartbeats 8000000

section
variable (A : Option Addr) (c : Nat) (EA : Option Addr) (EC : Nat)
def lv0 : Sq1 := ⟨newBS (mkLay ⟨1, 32, 2, 1, 0, A, 1, c⟩), [], cutM M32 0, cutM M32 0⟩
def lvq : SqC := ⟨⟨1, 32, 2, 1, 0, A, 1, c⟩, endsP [[]], 1, EA, EC⟩
def lv1 : Sq1 := (claim1 M32 (lvq A c EA EC) 0 (lv0 A c) { n := 2 }).2.1
def lv2 : Sq1 := (publish1 M32 (lvq A c EA EC) 0 (lv1 A c EA EC) { n := 2 }).2.1
def lv3 : Sq1 := (tip1 (lvq A c EA EC) 1 (lv2 A c EA EC) {}).2.1
theorem lv_claim : claim1 M32 (lvq A c EA EC) 0 (lv0 A c) { n := 2 } = (true, lv1 A c EA EC, { n := 2 }) := by rfl
theorem lv_publish : publish1 M32 (lvq A c EA EC) 0 (lv1 A c EA EC) { n := 2 } = (true, lv2 A c EA EC, { n := 2 }) := by rfl
theorem lv_tip : tip1 (lvq A c EA EC) 1 (lv2 A c EA EC) {} = (true, lv3 A c EA EC, { val := 2 }) := by rfl
theorem lv_len : (lv3 A c EA EC).ev.length = 3 := by rfl
theorem lv_conf : CfOk ⟨1, 32, 2, 1, 0, A, 1, c⟩ [[]] := ⟨⟨Int.le_refl 1, show (1 : Int) ≤ 5 by decide⟩, .inl rfl, .inl rfl, ⟨Int.le_refl 1, show (1 : Int) ≤ 4 by decide⟩, fun _ => rfl, upOk_one⟩
theorem lv_st : St1 M32 (lvq A c EA EC) 0 (lv0 A c) :=
  ⟨newBS_fit ⟨1, 32, 2, 1, 0, A, 1, c⟩ (lv_conf A c) rfl, by show InM M32 (cutM M32 0); unfold InM M32; decide, Nat.le_refl _, Nat.le_refl _, by show (endsP [[]]).length ≤ 6; exact endsP_len _⟩
theorem conf19_0 (w : World) : Calls Tryd.prog 48 #[.agg #[.bool false, .int .u8 0, .int .u8 0, .int .u8 0, .int .u64 0]] w fun e w' =>
    ∃ A c, e = .returned (.agg #[.int .i64 1, .int .i64 32, .int .i64 2, .int .i64 1, .int .u64 0, .slice A 1 c]) ∧ UpAt w' (fun b => w.heap.size ≤ b ∧ b < w'.heap.size) A [[]] ∧ 1 ≤ c ∧ Below w.heap.size w w' :=
  (conf19_false 0 0 0 0 ⟨by decide, by decide⟩ ⟨by decide, by decide⟩ ⟨by decide, by decide⟩ w).mono fun _ _ h => h
end
set_option maxRecDepth 100000 in
theorem live19 (w : World) (hg : 1 < w.heap.size) (hT : TabG 1 w) : Calls Tryd.prog 49 #[] w fun e w' => e = .returned (.bool true) ∧ Below w.heap.size w w' := by
  have HCF := Lib.hid conf19_0
  have HOF := Lib.hid (fun (Bk : Nat → Prop) ua uc W hB hU => layof Bk ⟨1, 32, 2, 1, 0, ua, 1, uc⟩ [[]] rfl (lv_conf ua uc) (by simp) W hB hU)
  have HNW := Lib.hid (fun (Bk : Nat → Prop) ua uc W hB hU => bnew32 Bk ⟨1, 32, 2, 1, 0, ua, 1, uc⟩ [[]] rfl (lv_conf ua uc) rfl ⟨show (0 : Int) ≤ 0 by decide, show (0 : Int) ≤ 18446744073709551615 by decide⟩ (by simp) W hB hU)
  have HSN := Lib.hid (fun (Bk : Nat → Prop) ua uc W γ p lg hb hB hU hg hT => new132 Bk (newBS (mkLay ⟨1, 32, 2, 1, 0, ua, 1, uc⟩)) [[]] p lg W γ 1 hb rfl rfl (lv_conf ua uc) ⟨show (0 : Int) ≤ 0 by decide, show (0 : Int) ≤ 18446744073709551615 by decide⟩ (by simp) (newBS_fit ⟨1, 32, 2, 1, 0, ua, 1, uc⟩ (lv_conf ua uc) rfl).ok.bd (newBS_fit ⟨1, 32, 2, 1, 0, ua, 1, uc⟩ (lv_conf ua uc) rfl).ok.pos rfl hB hU hg hT)
  have HT := Lib.hid (And.intro hg hT)
  unfold Cf.vs at HOF
  unfold Lay.vs at HNW
  clear hg hT
  go_enter Tryd.func49, Tryd.ntmps49
  go_wp2_with (first
    | (go_at_call 48; refine (HCF.out _).mono ?_; rintro e w1 ⟨A1, c1, rfl, hU1, hc1, hb1⟩; have HU1 := Lib.hid hU1; have HB1 := Lib.hid hb1; clear hU1 hb1 hc1)
    | (go_at_call 17; refine (HOF.out (fun b => w.heap.size ≤ b ∧ b < w1.heap.size) A1 c1 _ (fun b hb => hb.2) HU1.out).mono ?_; rintro e w3 ⟨A3, c3, rfl, hcl3, hU3, hb3⟩; unfold Lay.vs; obtain ⟨hc3, hf3⟩ := bcell hb3; have HU3 := Lib.hid hU3; have hz3 := hb3.size; have HW3 := Lib.hid (HB1.out.trans (hb3.mono HB1.out.size)); clear hU3 hb3 hcl3)
    | (go_at_call 28; refine (HNW.out _ A3 c3 _ (by intro b hb; have := hb.2; simp; omega) (HU3.out.below (B := w3.heap.size) (by (repeat (with_reducible first | exact Below.refl _ _ | refine Below.drew ?_ | refine below_drewN ?_ _ | refine Below.setCell ?_ ?_ _ | refine Below.alloc ?_ ?_ _)); all_goals first | omega | (dsimp only; omega) | (simp; omega)) (fun b hb => hb.2))).mono ?_; intro e w4 hN; obtain ⟨p, γ4, rfl, hb4, hp4, hB4, hO4, hl4⟩ := new_old 208 (Below.refl _ _) hN; have hex := nb_base (w := w) (its_B hO4 hB4) (HW3.out.alloc HW3.out.size _) (by intro b hb; have := hb.2; simp; omega) (HU3.out.below (B := w3.heap.size) (by (repeat (with_reducible first | exact Below.refl _ _ | refine Below.drew ?_ | refine below_drewN ?_ _ | refine Below.setCell ?_ ?_ _ | refine Below.alloc ?_ ?_ _)); all_goals first | omega | (dsimp only; omega) | (simp; omega)) (fun b hb => hb.2)); obtain ⟨B0, hi4, hbw, hUB, hU4⟩ := hex; have HI4 := Lib.hid hi4; have HBW := Lib.hid (And.intro hbw (And.intro hUB hU4)); clear hN hb4 hp4 hB4 hO4 hl4 hi4 hbw hUB hU4)
    | (go_at_call 50; refine (evNew _).mono ?_; rintro e w5 ⟨lg, rfl, hb5, hl5⟩; have hex := its_BL HI4.out hb5 hl5; obtain ⟨γ5, hi5⟩ := hex; have HI5 := Lib.hid hi5; clear hb5 hl5 hi5)
    | (go_at_call 120; refine (HSN.out _ A3 c3 _ γ5 p lg HI5.out.g0 (fun b hb => Nat.lt_of_lt_of_le (HBW.out.2.1 b hb) HI5.out.bel.size) (HBW.out.2.2.below HI5.out.bel HBW.out.2.1) (Nat.lt_of_lt_of_le HT.out.1 (Nat.le_trans HBW.out.1.size HI5.out.bel.size)) ((HT.out.2.below HBW.out.1 HT.out.1).below HI5.out.bel (Nat.lt_of_lt_of_le HT.out.1 HBW.out.1.size))).mono ?_; rintro e w6 ⟨g, EA, EC, rfl, hb6, hg6, hs6⟩; have hex := its_BLS HI5.out hb6 hs6; obtain ⟨γ6, hi6⟩ := hex; have HI6 := Lib.hid (show Its B0 (fun _ => 0) NoId [itB 132 48 208 .u32 1 p (lv0 A3 c3).b, itL 155 162 2 lg (lv0 A3 c3).ev, itS1 195 .u32 3 g p lg (lvq A3 c3 EA EC) (lv0 A3 c3).next (lv0 A3 c3).least] w6 γ6 from hi6); clear hb6 hg6 hs6 hi6))
  have hx7 := its_K (T := 62) HI6.out rfl rfl rfl (frsCs .u32 [] [({ n := 2 } : FrS)] [])
  obtain ⟨γ7, hi7⟩ := hx7
  have HI7 := Lib.hid hi7
  have HST := Lib.hid (lv_st A3 c3 EA EC)
  clear hi7
  go_loopw [7, 8] (fun d i wr => ∃ (k : Nat) (γ : Nat → Nat), k ≤ 1 ∧ i = .int .i64 k ∧ d = .bool (decide (k = 1)) ∧ Q132 B0 (fun _ => 0) NoId [] (qp1 4 62 p lg g w6.heap.size) (lvq A3 c3 EA EC) (pick k (lv0 A3 c3) (lv1 A3 c3 EA EC)) ({ n := 2 } : FrS) wr γ) (fun _ i _ => 1 - (intOf i).toNat)
  case atStart => exact ⟨0, γ7, by decide, rfl, rfl, HI7.out⟩
  case round =>
    obtain ⟨k, γ8, hk, rfl, rfl, hq8⟩ := hrel
    have hF := hq8.reg
    have HQ8 := Lib.hid hq8
    clear hq8
    rcases (show k = 0 ∨ k = 1 by omega) with rfl | rfl
    · clear hF
      have hd : decide ((0 : Nat) = 1) = false := rfl
      go_wp2_with (go_at_call 121; have hq := q1_claim32 (s := lv0 A3 c3) (f := { n := 2 }) HQ8.out HST.out.fit (by have := HST.out.log; omega) (by have := HST.out.ev; omega) (by have := HST.out.ends; omega) (by show InM M32 0; unfold InM M32; decide) HST.out.next 0; rw [lv_claim] at hq; refine hq.mono ?_; clear hq; rintro e w9 ⟨rfl, γ9, h9⟩; have HQ9 := Lib.hid h9; clear h9)
      go_roundw
      case rel => exact ⟨1, γ9, by decide, rfl, rfl, HQ9.out⟩
      case measure => simp [intOf]
    · have hd : decide ((1 : Nat) = 1) = true := rfl
      obtain ⟨wG, hwG⟩ : ∃ x, x = wr := ⟨wr, rfl⟩
      subst hwG
      obtain ⟨r1, r3, r4, r6, r7, r8, zr, hr⟩ := hF
      dsimp only [qp1] at r6
      rw [Nat.zero_add] at r6
      clear r1 r3 r4 r7 r8
      go_wp2_with fail
      have hx8 := its_K5 (T := 62) HQ8.out rfl rfl rfl rfl (frsCs .u32 [] [({ n := 2 } : FrS)] [])
      obtain ⟨γ9, hi9⟩ := hx8
      have HI9 := Lib.hid hi9
      clear hi9 zr hr hd
      go_loopw [7, 10] (fun d i wr2 => d = .bool true ∧ i = .int .i64 0 ∧ ∃ γ, Q132 B0 (fun _ => 0) NoId [itK 4 w6.heap.size 62 (frsCs .u32 [] [({ n := 2 } : FrS)] [])] (qp1 5 62 p lg g wG.heap.size) (lvq A3 c3 EA EC) (lv1 A3 c3 EA EC) ({ n := 2 } : FrS) wr2 γ) (fun _ _ _ => 0)
      case atStart => exact ⟨rfl, rfl, γ9, HI9.out⟩
      case round =>
        obtain ⟨rfl, rfl, γ10, hq9⟩ := hrel
        have HQ9 := Lib.hid hq9
        have HS1 := Lib.hid (show St1 M32 (lvq A3 c3 EA EC) 1 (lv1 A3 c3 EA EC) from HST.out.claim 0 { n := 2 })
        clear hq9
        go_wp2_with (go_at_call 122; have hq := q1_publish32 (s := lv1 A3 c3 EA EC) (f := { n := 2 }) HQ9.out HS1.out.fit (by have := HS1.out.log; omega) (by have := HS1.out.ev; omega) (by have := HS1.out.ends; omega) (by show InM M32 0; unfold InM M32; decide) 0; rw [lv_publish] at hq; refine hq.mono ?_; clear hq; rintro e w10 ⟨rfl, γ11, h10⟩; have HQ10 := Lib.hid h10; clear h10)
        have hx9 := its_K6 (T := 62) HQ10.out rfl rfl rfl rfl rfl (frsCs .u32 [] [({} : FrS)] [])
        obtain ⟨γ12, hi12⟩ := hx9
        have HI12 := Lib.hid hi12
        clear hi12
        go_loopw [7, 12] (fun d i wr3 => d = .bool true ∧ i = .int .i64 0 ∧ ∃ γ, Q132 B0 (fun _ => 0) NoId [itK 5 wG.heap.size 62 (frsCs .u32 [] [({ n := 2 } : FrS)] []), itK 4 w6.heap.size 62 (frsCs .u32 [] [({ n := 2 } : FrS)] [])] (qp1 6 62 p lg g w10.heap.size) (lvq A3 c3 EA EC) (lv2 A3 c3 EA EC) ({} : FrS) wr3 γ) (fun _ _ _ => 0)
        case atStart => exact ⟨rfl, rfl, γ12, HI12.out⟩
        case round =>
          obtain ⟨rfl, rfl, γ13, hq13⟩ := hrel
          have HQ13 := Lib.hid hq13
          have HS2 := Lib.hid (show St1 M32 (lvq A3 c3 EA EC) 2 (lv2 A3 c3 EA EC) from HS1.out.publish 0 { n := 2 })
          clear hq13
          go_wp2_with (first
            | (go_at_call 123; have hq := q1_tip32 (s := lv2 A3 c3 EA EC) (f := {}) HQ13.out HS2.out.fit (by have := HS2.out.log; omega) 1; rw [lv_tip] at hq; refine hq.mono ?_; clear hq; rintro e w14 ⟨rfl, γ14, h14⟩; have hk : Blk w14 w6.heap.size _ (frsCs .u32 [] [({ n := 2 } : FrS)] []) ∧ γ14 w6.heap.size = 4 := Its.g5 h14; have c6 : w14.cell? ⟨w6.heap.size, 6, none⟩ = some (.int .u32 0) := hk.1.cell 6; have hv := h14.reg.2.2.2.2.2.1; dsimp only [qp1] at hv; rw [Nat.zero_add] at hv; have HQ14 := Lib.hid h14; clear h14 hk)
            | (go_at_call 63; have hq := evLen _ _ _ _ _ (show LogAt 155 162 w14 γ14 2 lg (lv3 A3 c3 EA EC).ev from Its.g1 HQ14.out); rw [lv_len] at hq; refine hq.mono ?_; clear hq; rintro e w' ⟨rfl, rfl⟩))
          go_ret
          exact ⟨rfl, HBW.out.1.trans ((Its.bel HQ14.out).mono HBW.out.1.size)⟩
theorem live_at19 {w X : World} (HV : ∀ W, Below w.heap.size w W → Calls Tryd.prog 49 #[] W fun e w' => e = .returned (.bool true) ∧ Below W.heap.size W w') (hX : Below w.heap.size w X) (W : World) (hW : Below X.heap.size X W) :
    Calls Tryd.prog 49 #[] W fun e w' => e = .returned (.bool true) ∧ Below w.heap.size w w' :=
  (HV W (hX.trans (hW.mono hX.size))).mono fun _ _ ⟨he, hb⟩ => ⟨he, (hX.trans (hW.mono hX.size)).trans (hb.mono (hX.trans (hW.mono hX.size)).size)⟩
end Go.Proofs.YtnkmlopjinihiaaDoor
