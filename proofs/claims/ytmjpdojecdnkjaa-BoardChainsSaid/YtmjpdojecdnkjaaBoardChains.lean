/- sakialaw12.BoardChains returns true for every input, and changes nothing. -/
import Derived.Test.YtmjpdojecdnkjaaChainP
import Derived.Test.YtmjpdojecdnkjaaLive12
import Derived.Test.YtmjpdojecdnkjaaOpenD
import Derived.Test.YtmjpdojecdnkjaaIts
import Derived.Test.YtmjpdojecdnkjaaLayOf
import Derived.Test.YtmjpdojecdnkjaaGuard
namespace Go.Proofs.Ytmjpdojecdnkjaa
open Go.RowKit
set_option linter.unusedVariables false
set_option linter.unusedSimpArgs false
set_option maxHeartbeats 4000000

section
variable (w0 : World)

theorem mk_base {B W w : World} {γ0 γ : Nat → Nat} {S : Nat → Prop} {L : List It} {g : Nat} {t : TypeId} {cs : Array Value} {Bk : Nat → Prop} {A : Option Addr} {up : List (List Int)} (h : Its W γ0 S L w γ) (hb : Blk W g t cs) (hw : Below B.heap.size B W) (hu : UpAt W Bk A up) :
    ∃ B0, Its B0 γ0 S L w γ ∧ Blk B0 g t cs ∧ Below B.heap.size B B0 ∧ UpAt B0 Bk A up := ⟨W, h, hb, hw, hu⟩
set_option maxRecDepth 100000 in
theorem boardChains_any (c : Cf) (up : List (List Int)) (hun : c.un = up.length) (hU : UpAt w0 (fun b => b < w0.heap.size) c.ua up) (hlen : up.length ≤ maxLen) (hll : ∀ l ∈ up, l.length ≤ maxLen) (hst : 0 ≤ c.start ∧ c.start ≤ 18446744073709551615)
    (A : Option Addr) (ds : List (List Int)) (xc : Nat) (hA : DosAt w0 (fun b => b < w0.heap.size) [.i64, .i64, .i64, .i64, .u64, .u64] A ds) (hd6 : ∀ d ∈ ds, d.length = [IntKind.i64, IntKind.i64, IntKind.i64, IntKind.i64, IntKind.u64, IntKind.u64].length ∧ ∀ (j : Nat) (k : IntKind) (x : Int), [IntKind.i64, IntKind.i64, IntKind.i64, IntKind.i64, IntKind.u64, IntKind.u64][j]? = some k → d[j]? = some x → (Lit.int k x).wf = true) :
    Calls Try.prog 9 #[.agg c.vs.toArray, .slice A ds.length xc] w0 fun e w' => e = .returned (.bool true) ∧ Below w0.heap.size w0 w' := by
  have HV := Lib.hid live12
  have hlo := fun W (hW : Below w0.heap.size w0 W) => llongB _ up c.ua c.uc hlen hll W (hU.below hW (fun b hb => hb))
  by_cases hs : ShortUp up
  · have hsb : (!decide (ShortUp up)) = false := by simp [hs]
    simp only [hsb] at hlo
    have hll6 : ∀ l ∈ up, l.length ≤ 1000000 := fun l hl => by have := hs.2 l hl; omega
    have hlen6 : up.length ≤ 1000000 := by have := hs.1; omega
    by_cases hxl : 200 < ds.length
    · have hxi : (200 : Int) < ds.length := by omega
      obtain ⟨variant, width, cap, producers, start, ua, un, uc⟩ := c
      unfold Cf.vs at *
      dsimp only at *
      subst hun
      have HLO := Lib.hid hlo
      clear hlo hU hll hlen hll6 hlen6 hs hsb hst hxl hA hd6
      go_enter Try.func9, Try.ntmps9
      go_wp2_with (first | (go_at_call 23; refine (HLO.out _ (by (repeat (with_reducible first | exact Below.refl _ _ | refine Below.drew ?_ | refine below_drewN ?_ _ | refine Below.setCell ?_ ?_ _ | refine Below.alloc ?_ ?_ _)); all_goals first | omega | (dsimp only; omega) | (simp; omega))).mono ?_; rintro e w' ⟨rfl, rfl⟩) | (go_at_call 43; refine (HV.out _).mono ?_; rintro e w9 ⟨rfl, hb9⟩; have HB9 := Lib.hid hb9; clear hb9))
      go_ret
      exact ⟨rfl, below_new HB9.out⟩
    · have hri := fun W (hW : Below w0.heap.size w0 W) => rrightOf _ c up hun hlen6 hll6 W (fun b hb => Nat.lt_of_lt_of_le hb hW.size) (hU.below hW (fun b hb => hb))
      have hxi : ¬ (200 : Int) < ds.length := by omega
      have hxn : ds.length ≤ 200 := by omega
      by_cases hc : confCode c up = 0
      · have hok := cfOk_of_code hc
        simp only [show (confCode c up == 0) = true by simp [hc]] at hri
        by_cases hwid : c.width = 32
        · have hcap := hok.cap
          obtain ⟨variant, width, cap, producers, start, ua, un, uc⟩ := c
          unfold Cf.vs at *
          dsimp only at *
          subst hwid
          have HLO := Lib.hid hlo
          have HRI := Lib.hid hri
          have HOF := Lib.hid (fun W (hW : Below w0.heap.size w0 W) => layof (fun b => b < w0.heap.size) ⟨variant, 32, cap, producers, start, ua, un, uc⟩ up hun hok hll6 W (fun b hb => Nat.lt_of_lt_of_le hb hW.size) (hU.below hW (fun b hb => hb)))
          have HNW := Lib.hid (fun (Bk : Nat → Prop) ua uc W hB hU => bnew32 Bk ⟨variant, 32, cap, producers, start, ua, un, uc⟩ up hun (hok.ua ua uc) rfl hst hll6 W hB hU)
          have HFT := Lib.hid (fun ua uc => newBS_fit ⟨variant, 32, cap, producers, start, ua, un, uc⟩ (hok.ua ua uc) hun)
          have HFS := Lib.hid (fun (Bk : Nat → Prop) ua uc k hk W hB hU => lfirst Bk ⟨variant, 32, cap, producers, start, ua, un, uc⟩ up hun (hok.ua ua uc) hst hll6 k hk W hB hU)
          have HCH := Lib.hid (fun ua uc => Chained.new ⟨variant, 32, cap, producers, start, ua, un, uc⟩ hcap)
          have HCE := Lib.hid (fun ua uc => show (mkLay ⟨variant, 32, cap, producers, start, ua, un, uc⟩).cells ≤ 200 by
            have h1 := mkLay_cells (c := ⟨variant, 32, cap, producers, start, ua, un, uc⟩) hcap
            have h2 := (mkLay_bd (c := ⟨variant, 32, cap, producers, start, ua, un, uc⟩) (by have := hok.up.len; dsimp only; omega) hcap).slots
            have h3 := hcap.bd
            dsimp only at h1 h2 h3
            have h4 : un ≤ 6 := by have := hok.up.len; omega
            unfold mkLay
            split
            · dsimp only; omega
            · split <;> dsimp only <;> omega)
          unfold Cf.vs at HOF
          unfold Lay.vs at HNW HFS
          dsimp only at HFS HCE HCH HFT HNW HOF
          subst hun
          have HAX := Lib.hid (And.intro hA hd6)
          have HXN := Lib.hid hxn
          clear hlo hri hU hll hlen hll6 hlen6 hs hsb hst hc hok hcap hA hd6
          go_enter Try.func9, Try.ntmps9
          go_wp2_with (first | (go_at_call 23; refine (HLO.out _ (by (repeat (with_reducible first | exact Below.refl _ _ | refine Below.drew ?_ | refine below_drewN ?_ _ | refine Below.setCell ?_ ?_ _ | refine Below.alloc ?_ ?_ _)); all_goals first | omega | (dsimp only; omega) | (simp; omega))).mono ?_; rintro e w' ⟨rfl, rfl⟩) | (go_at_call 24; refine (HRI.out _ (by (repeat (with_reducible first | exact Below.refl _ _ | refine Below.drew ?_ | refine below_drewN ?_ _ | refine Below.setCell ?_ ?_ _ | refine Below.alloc ?_ ?_ _)); all_goals first | omega | (dsimp only; omega) | (simp; omega))).mono ?_; rintro e w2 ⟨rfl, hb2⟩; obtain ⟨hc2, hf2⟩ := bcell hb2; have hz2 := hb2.size; have HCF2 := Lib.hid ((Blk.new w0 51 _).below hb2 (by simp)); have HB2 := Lib.hid hb2; clear hb2) | (go_at_call 43; refine (HV.out _).mono ?_; rintro e w9 ⟨rfl, hb9⟩; have HB9 := Lib.hid hb9; clear hb9) | (go_at_call 25; have hW1 := (((Below.refl w0.heap.size w0).alloc (Nat.le_refl _) _).trans (HB2.out.mono (by simp))); have hq := HOF.out _ hW1; refine hq.mono ?_; clear hq; rintro e w3 ⟨A3, c3, rfl, hcl3, hU3, hb3⟩; unfold Lay.vs; obtain ⟨hc3, hf3⟩ := bcell hb3; have HU3 := Lib.hid hU3; have hz3 := hb3.size; have HW3 := Lib.hid (hW1.trans (hb3.mono hW1.size)); clear hU3 hb3 hcl3 hW1) | (go_at_call 36; refine (HNW.out _ A3 c3 _ (by intro b hb; have := hb.2; simp; omega) (HU3.out.below (B := w3.heap.size) (by (repeat (with_reducible first | exact Below.refl _ _ | refine Below.drew ?_ | refine below_drewN ?_ _ | refine Below.setCell ?_ ?_ _ | refine Below.alloc ?_ ?_ _)); all_goals first | omega | (dsimp only; omega) | (simp; omega)) (fun b hb => hb.2))).mono ?_; intro e w4 hN; obtain ⟨p, γ4, rfl, hb4, hp4, hB4, hO4, hl4⟩ := new_old 87 (Below.refl _ _) hN; have hi4 := Its.one hO4 (x := itB 111 24 87 .u32 1 p (newBS (mkLay ⟨variant, 32, cap, producers, start, A3, up.length, c3⟩))) hB4 (by decide : (1 : Nat) ≠ 0); have hex := mk_base hi4 (Blk.new w3 55 _) (HW3.out.alloc HW3.out.size _) (HU3.out.below (B := w3.heap.size) (w' := w3.alloc _) ((Below.refl _ _).alloc (Nat.le_refl _) _) (fun b hb => hb.2)); obtain ⟨B0, hi4', hlay, hbw, hup⟩ := hex; have HI4 := Lib.hid hi4'; have HBASE := Lib.hid (And.intro hlay (And.intro hbw hup)); clear hN hb4 hp4 hB4 hO4 hl4 hi4 hi4' hlay hbw hup))
          go_loopw [8] (fun i wr => ∃ (k : Nat) (γ : Nat → Nat) (b : BS), i = .int .i64 k ∧ k ≤ ds.length ∧ Its B0 (fun _ => 0) NoId [itB 111 24 87 .u32 1 p b] wr γ ∧ b.Fit M32 ∧ b.log.length ≤ k ∧ Chained b ∧ b.l = (mkLay ⟨variant, 32, cap, producers, start, A3, up.length, c3⟩)) (fun i _ => ds.length - (intOf i).toNat)
          case atStart => exact ⟨0, γ4, _, rfl, by omega, HI4.out, HFT.out A3 c3, Nat.le_refl _, HCH.out A3 c3, rfl⟩
          case round =>
            obtain ⟨k, γ, b, rfl, hk, hits, hfit, hlg, hch, hbl⟩ := hrel
            have hbw : Below w0.heap.size w0 wr := HBASE.out.2.1.trans (hits.bel.mono HBASE.out.2.1.size)
            by_cases hlt : k < ds.length
            · have hkx : (k : Int) < ds.length := by omega
              have hgx := List.getElem?_eq_getElem hlt
              have hxb := HAX.out.2 _ (List.getElem_mem hlt)
              generalize ds[k] = dd at hgx hxb
              obtain ⟨hd2, ab, ao, rfl, hab, hac⟩ := HAX.out.1 k dd hgx
              match dd, hd2 with
              | [dt, dk, dc, dn, do_, dv], _ =>
              have hw3 := bounds_i64 (hxb.2 3 .i64 dn rfl rfl)
              have hw4 := bounds_u64 (hxb.2 4 .u64 do_ rfl rfl)
              have hw5 := bounds_u64 (hxb.2 5 .u64 dv rfl rfl)
              have ha0 : wr.cell? ⟨ab, ao + k * 6, none⟩ = some (.int .i64 dt) := (hbw.cell (p := ⟨ab, _, none⟩) hab).trans (hac 0 .i64 dt rfl rfl)
              have ha1 : wr.cell? ⟨ab, ao + k * 6 + 1, none⟩ = some (.int .i64 dk) := (hbw.cell (p := ⟨ab, _, none⟩) hab).trans (hac 1 .i64 dk rfl rfl)
              have ha2 : wr.cell? ⟨ab, ao + k * 6 + 2, none⟩ = some (.int .i64 dc) := (hbw.cell (p := ⟨ab, _, none⟩) hab).trans (hac 2 .i64 dc rfl rfl)
              have ha3 : wr.cell? ⟨ab, ao + k * 6 + 3, none⟩ = some (.int .i64 dn) := (hbw.cell (p := ⟨ab, _, none⟩) hab).trans (hac 3 .i64 dn rfl rfl)
              have ha4 : wr.cell? ⟨ab, ao + k * 6 + 4, none⟩ = some (.int .u64 do_) := (hbw.cell (p := ⟨ab, _, none⟩) hab).trans (hac 4 .u64 do_ rfl rfl)
              have ha5 : wr.cell? ⟨ab, ao + k * 6 + 5, none⟩ = some (.int .u64 dv) := (hbw.cell (p := ⟨ab, _, none⟩) hab).trans (hac 5 .u64 dv rfl rfl)
              have HSM := Lib.hid (fun W (hW : Below wr.heap.size wr W) => small12 W γ 1 p b (hits.below hW).g0 hfit (by have := HXN.out; omega) dt dk dc dn do_ dv hw4 hw5)
              have HPL := Lib.hid (And.intro (stepP_fit hfit dt dk dc dn do_ dv hw3) (And.intro (stepP_log M32 b dt dk dc dn do_ dv) (And.intro (show Chained (stepP M32 b dt dk dc dn do_ dv).2 by
                rcases stepP_moves hfit dt dk dc dn do_ dv with he | ⟨a, he⟩
                · rw [he]; exact hch
                · exact hch.step he) ((stepP_l M32 b dt dk dc dn do_ dv).trans hbl))))
              generalize stepP M32 b dt dk dc dn do_ dv = r at HSM HPL
              obtain ⟨⟨r1, r2⟩, b2⟩ := r
              dsimp only at HSM HPL
              have HI := Lib.hid hits
              have HLG := Lib.hid hlg
              clear hac hgx hxb hfit hlg hch hbl hits hw3 hw4 hw5
              go_wp2_with (go_at_call 44; refine (HSM.out _ (by (repeat (with_reducible first | exact Below.refl _ _ | refine Below.drew ?_ | refine below_drewN ?_ _ | refine Below.setCell ?_ ?_ _ | refine Below.alloc ?_ ?_ _)); all_goals first | omega | (dsimp only; omega) | (simp; omega))).mono ?_; rintro e w8 ⟨rfl, γ8, hB8, hfr8⟩; have HI8 := Lib.hid ((HI.out.below (by (repeat (with_reducible first | exact Below.refl _ _ | refine Below.drew ?_ | refine below_drewN ?_ _ | refine Below.setCell ?_ ?_ _ | refine Below.alloc ?_ ?_ _)); all_goals first | omega | (dsimp only; omega) | (simp; omega))).s0 (y := itB 111 24 87 .u32 1 p b2) rfl hfr8 hB8); clear hB8 hfr8)
              go_round
              case rel => exact ⟨k + 1, γ8, b2, by go_num, by omega, HI8.out, HPL.out.1, by have := HPL.out.2.1; have := HLG.out; omega, HPL.out.2.2.1, HPL.out.2.2.2⟩
              case measure => simp only [intOf]; omega
            · have HLN := Lib.hid (show b.log.length ≤ 200 by have := HXN.out; omega)
              have HI := Lib.hid hits
              have hcl := hch.old
              rw [hbl] at hcl
              have HCL := Lib.hid hcl
              clear hits hch hbl hfit hlg hcl
              have HBWR := Lib.hid hbw
              go_wp2_with (go_at_call 45; refine (bLog32 _ γ 1 p b HI.out.g0 (by have := HLN.out; omega)).mono ?_; rintro e w16 ⟨v, rfl, hown, hb16⟩; obtain ⟨A6, c6, rfl, _⟩ := own_form hown; have HRD := Lib.hid (Reads.of_own hown); have HI16 := Lib.hid (HI.out.below hb16); clear hown hb16)
              generalize b.log = log at *
              have HLN2 := Lib.hid HLN.out
              go_loopw [10] (fun i wr => ∃ (k : Nat), i = .int .i64 k ∧ k ≤ log.length ∧ Below w16.heap.size w16 wr) (fun i _ => log.length - (intOf i).toNat)
              case atStart => exact ⟨0, rfl, by omega, Below.refl _ _⟩
              case round =>
                obtain ⟨i, rfl, hi, hbe⟩ := hrel
                have hlen200 := HLN2.out
                have HBE := Lib.hid hbe
                by_cases hit : i < log.length
                · have hiti : (i : Int) < log.length := by omega
                  have hg := List.getElem?_eq_getElem hit
                  generalize log[i] = a at hg
                  obtain ⟨g, o, rfl, c0, c1, c2, c3', c4⟩ := acc_cells (HRD.out.below hbe) hg
                  obtain ⟨hold, hce0, hce1⟩ := HCL.out i a hg
                  obtain ⟨th, kd, ce, od, nw⟩ := a
                  dsimp only at *
                  subst hold
                  have hz14 := blk_cells14 (HBASE.out.1.below (HI16.out.below hbe).bel HBASE.out.1.lt)
                  obtain ⟨l0, l1, l2, l3, l4, l5, l6, l7, l8, l9, l10, l11, l12, l13⟩ := hz14
                  have HF := Lib.hid (fun W (hW : Below wr.heap.size wr W) => HFS.out (fun b => b < B0.heap.size) A3 c3 ce ⟨hce0, by have := HCE.out A3 c3; omega⟩ W (fun b hb => Nat.lt_of_lt_of_le hb (Nat.le_trans (HI16.out.below hbe).bel.size hW.size)) (((HBASE.out.2.2.mono (fun b hb => Nat.lt_trans hb.2 HBASE.out.1.lt)).below (B := B0.heap.size) ((HI16.out.below hbe).bel.trans (hW.mono (HI16.out.below hbe).bel.size)) (fun b hb => hb))))
                  have HGI := Lib.hid hg
                  clear hg hce0 hce1 hbe
                  go_wp2_with fail
                  go_region_with (go_at_call 46; refine (HF.out _ (by (repeat (with_reducible first | exact Below.refl _ _ | refine Below.drew ?_ | refine below_drewN ?_ _ | refine Below.setCell ?_ ?_ _ | refine Below.alloc ?_ ?_ _)); all_goals first | omega | (dsimp only; omega) | (simp; omega))).mono ?_; rintro e w18 ⟨rfl, hb18⟩; have hb19 := HBE.out.trans ((by (repeat (with_reducible first | exact Below.refl _ _ | refine Below.drew ?_ | refine below_drewN ?_ _)) : Below wr.heap.size wr _).trans (hb18.mono (by simp)) |>.mono HBE.out.size); have HB18 := Lib.hid hb19; clear hb18 hb19)
                  · go_wp2_with fail
                    go_loopw [11, 12] (fun s j wr2 => ∃ (j0 : Nat), j = .int .i64 j0 ∧ j0 ≤ i ∧ s = .int .u64 (chainV (mkLay ⟨variant, 32, cap, producers, start, A3, up.length, c3⟩) log ce j0) ∧ Below w16.heap.size w16 wr2) (fun _ j _ => i - (intOf j).toNat)
                    case atStart => exact ⟨0, rfl, by omega, rfl, HB18.out⟩
                    case round =>
                      obtain ⟨j, rfl, hj, rfl, hbe2⟩ := hrel
                      have HBE2 := Lib.hid hbe2
                      obtain ⟨g2, o2, hgo, d0, d1, d2, d3, d4⟩ := acc_cells (HRD.out.below hbe2) HGI.out
                      obtain ⟨rfl, rfl⟩ : g2 = g ∧ o2 = o := by injection hgo with e; injection e with e1 e2 e3; exact ⟨e1.symm, e2.symm⟩
                      by_cases hjt : j < i
                      · have hjti : (j : Int) < i := by omega
                        have hjl : (j : Int) < log.length := by omega
                        have hg3 := List.getElem?_eq_getElem (show j < log.length by omega)
                        generalize log[j] = a3 at hg3
                        obtain ⟨g3, o3, hgo3, f0, f1, f2, f3, f4⟩ := acc_cells (HRD.out.below hbe2) hg3
                        obtain ⟨rfl, rfl⟩ : g3 = g2 ∧ o3 = o2 := by injection hgo3 with e; injection e with e1 e2 e3; exact ⟨e1.symm, e2.symm⟩
                        have hnx := chainV_next (l := (mkLay ⟨variant, 32, cap, producers, start, A3, up.length, c3⟩)) hg3 ce
                        obtain ⟨th3, kd3, ce3, od3, nw3⟩ := a3
                        dsimp only at *
                        clear hgo hgo3 hg3 hbe2
                        by_cases hce : ce3 = ce
                        · subst hce
                          rw [if_pos rfl] at hnx
                          have HNX := Lib.hid hnx
                          clear hnx
                          go_wp2_with fail
                          go_quiet (fail)
                          go_wp2_with fail
                          go_roundw
                          case rel => exact ⟨j + 1, by go_num, by omega, by rw [HNX.out], below_drewN HBE2.out _⟩
                          case measure => simp only [intOf]; omega
                        · have hceb : (ce3 == ce) = false := by simp [hce]
                          rw [if_neg hce] at hnx
                          have HNX := Lib.hid hnx
                          clear hnx hce
                          go_wp2_with fail
                          go_quiet (fail)
                          go_wp2_with fail
                          go_roundw
                          case rel => exact ⟨j + 1, by go_num, by omega, by rw [HNX.out], below_drewN HBE2.out _⟩
                          case measure => simp only [intOf]; omega
                      · obtain rfl : j = i := by omega
                        clear hgo hbe2
                        go_wp2_with fail
                        go_roundw
                        case rel => exact ⟨j + 1, by go_num, by omega, HBE2.out⟩
                        case measure => simp only [intOf]; omega
                  · go_wp2_with fail
                    go_loopw [11, 12] (fun s j wr2 => ∃ (j0 : Nat), j = .int .i64 j0 ∧ j0 ≤ i ∧ s = .int .u64 (chainV (mkLay ⟨variant, 32, cap, producers, start, A3, up.length, c3⟩) log ce j0) ∧ Below w16.heap.size w16 wr2) (fun _ j _ => i - (intOf j).toNat)
                    case atStart => exact ⟨0, rfl, by omega, rfl, HB18.out⟩
                    case round =>
                      obtain ⟨j, rfl, hj, rfl, hbe2⟩ := hrel
                      have HBE2 := Lib.hid hbe2
                      obtain ⟨g2, o2, hgo, d0, d1, d2, d3, d4⟩ := acc_cells (HRD.out.below hbe2) HGI.out
                      obtain ⟨rfl, rfl⟩ : g2 = g ∧ o2 = o := by injection hgo with e; injection e with e1 e2 e3; exact ⟨e1.symm, e2.symm⟩
                      by_cases hjt : j < i
                      · have hjti : (j : Int) < i := by omega
                        have hjl : (j : Int) < log.length := by omega
                        have hg3 := List.getElem?_eq_getElem (show j < log.length by omega)
                        generalize log[j] = a3 at hg3
                        obtain ⟨g3, o3, hgo3, f0, f1, f2, f3, f4⟩ := acc_cells (HRD.out.below hbe2) hg3
                        obtain ⟨rfl, rfl⟩ : g3 = g2 ∧ o3 = o2 := by injection hgo3 with e; injection e with e1 e2 e3; exact ⟨e1.symm, e2.symm⟩
                        have hnx := chainV_next (l := (mkLay ⟨variant, 32, cap, producers, start, A3, up.length, c3⟩)) hg3 ce
                        obtain ⟨th3, kd3, ce3, od3, nw3⟩ := a3
                        dsimp only at *
                        clear hgo hgo3 hg3 hbe2
                        by_cases hce : ce3 = ce
                        · subst hce
                          rw [if_pos rfl] at hnx
                          have HNX := Lib.hid hnx
                          clear hnx
                          go_wp2_with fail
                          go_quiet (fail)
                          go_wp2_with fail
                          go_roundw
                          case rel => exact ⟨j + 1, by go_num, by omega, by rw [HNX.out], below_drewN HBE2.out _⟩
                          case measure => simp only [intOf]; omega
                        · have hceb : (ce3 == ce) = false := by simp [hce]
                          rw [if_neg hce] at hnx
                          have HNX := Lib.hid hnx
                          clear hnx hce
                          go_wp2_with fail
                          go_quiet (fail)
                          go_wp2_with fail
                          go_roundw
                          case rel => exact ⟨j + 1, by go_num, by omega, by rw [HNX.out], below_drewN HBE2.out _⟩
                          case measure => simp only [intOf]; omega
                      · obtain rfl : j = i := by omega
                        clear hgo hbe2
                        go_wp2_with fail
                        go_roundw
                        case rel => exact ⟨j + 1, by go_num, by omega, HBE2.out⟩
                        case measure => simp only [intOf]; omega
                · obtain rfl : i = log.length := by omega
                  go_wp2_with (go_at_call 43; refine (HV.out _).mono ?_; rintro e w9 ⟨rfl, hb9⟩; have HB9 := Lib.hid hb9; clear hb9)
                  go_ret
                  exact ⟨rfl, (HBASE.out.2.1.trans ((HI16.out.below hbe).bel.mono HBASE.out.2.1.size)).trans (HB9.out.mono (HBASE.out.2.1.trans ((HI16.out.below hbe).bel.mono HBASE.out.2.1.size)).size)⟩
        · have hwb : (c.width != 32) = true := by simp [hwid]
          obtain ⟨variant, width, cap, producers, start, ua, un, uc⟩ := c
          unfold Cf.vs at *
          dsimp only at *
          subst hun
          have HLO := Lib.hid hlo
          have HRI := Lib.hid hri
          clear hlo hri hU hll hlen hll6 hlen6 hs hsb hst hc hok hwid hA hd6
          go_enter Try.func9, Try.ntmps9
          go_wp2_with (first | (go_at_call 23; refine (HLO.out _ (by (repeat (with_reducible first | exact Below.refl _ _ | refine Below.drew ?_ | refine below_drewN ?_ _ | refine Below.setCell ?_ ?_ _ | refine Below.alloc ?_ ?_ _)); all_goals first | omega | (dsimp only; omega) | (simp; omega))).mono ?_; rintro e w' ⟨rfl, rfl⟩) | (go_at_call 24; refine (HRI.out _ (by (repeat (with_reducible first | exact Below.refl _ _ | refine Below.drew ?_ | refine below_drewN ?_ _ | refine Below.setCell ?_ ?_ _ | refine Below.alloc ?_ ?_ _)); all_goals first | omega | (dsimp only; omega) | (simp; omega))).mono ?_; rintro e w2 ⟨rfl, hb2⟩; obtain ⟨hc2, hf2⟩ := bcell hb2; have hz2 := hb2.size; have HCF2 := Lib.hid ((Blk.new w0 51 _).below hb2 (by simp)); have HB2 := Lib.hid hb2; clear hb2) | (go_at_call 43; refine (HV.out _).mono ?_; rintro e w9 ⟨rfl, hb9⟩; have HB9 := Lib.hid hb9; clear hb9))
          go_ret
          exact ⟨rfl, below_new (HB2.out.trans (HB9.out.mono HB2.out.size))⟩
      · simp only [show (confCode c up == 0) = false by simp [hc]] at hri
        obtain ⟨variant, width, cap, producers, start, ua, un, uc⟩ := c
        unfold Cf.vs at *
        dsimp only at *
        subst hun
        have HLO := Lib.hid hlo
        have HRI := Lib.hid hri
        clear hlo hri hU hll hlen hll6 hlen6 hs hsb hst hc hA hd6
        go_enter Try.func9, Try.ntmps9
        go_wp2_with (first | (go_at_call 23; refine (HLO.out _ (by (repeat (with_reducible first | exact Below.refl _ _ | refine Below.drew ?_ | refine below_drewN ?_ _ | refine Below.setCell ?_ ?_ _ | refine Below.alloc ?_ ?_ _)); all_goals first | omega | (dsimp only; omega) | (simp; omega))).mono ?_; rintro e w' ⟨rfl, rfl⟩) | (go_at_call 24; refine (HRI.out _ (by (repeat (with_reducible first | exact Below.refl _ _ | refine Below.drew ?_ | refine below_drewN ?_ _ | refine Below.setCell ?_ ?_ _ | refine Below.alloc ?_ ?_ _)); all_goals first | omega | (dsimp only; omega) | (simp; omega))).mono ?_; rintro e w2 ⟨rfl, hb2⟩; obtain ⟨hc2, hf2⟩ := bcell hb2; have hz2 := hb2.size; have HCF2 := Lib.hid ((Blk.new w0 51 _).below hb2 (by simp)); have HB2 := Lib.hid hb2; clear hb2) | (go_at_call 43; refine (HV.out _).mono ?_; rintro e w9 ⟨rfl, hb9⟩; have HB9 := Lib.hid hb9; clear hb9))
        go_ret
        exact ⟨rfl, below_new (HB2.out.trans (HB9.out.mono HB2.out.size))⟩
  · simp only [show (!decide (ShortUp up)) = true by simp [hs]] at hlo
    obtain ⟨variant, width, cap, producers, start, ua, un, uc⟩ := c
    unfold Cf.vs at *
    dsimp only at *
    subst hun
    have HLO := Lib.hid hlo
    clear hlo hU hll hlen hs hst hA hd6
    go_enter Try.func9, Try.ntmps9
    go_wp2_with (first | (go_at_call 23; refine (HLO.out _ (by (repeat (with_reducible first | exact Below.refl _ _ | refine Below.drew ?_ | refine below_drewN ?_ _ | refine Below.setCell ?_ ?_ _ | refine Below.alloc ?_ ?_ _)); all_goals first | omega | (dsimp only; omega) | (simp; omega))).mono ?_; rintro e w' ⟨rfl, rfl⟩) | (go_at_call 43; refine (HV.out _).mono ?_; rintro e w9 ⟨rfl, hb9⟩; have HB9 := Lib.hid hb9; clear hb9))
    go_ret
    exact ⟨rfl, below_new HB9.out⟩
end
end Go.Proofs.Ytmjpdojecdnkjaa
