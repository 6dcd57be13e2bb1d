/- sakialaw17.MarkFinds returns true for every input, and changes nothing. -/
import Derived.Test.YthnmpndofkgppaaMarkFindsP
import Derived.Test.YthnmpndofkgppaaIts
import Derived.Test.YthnmpndofkgppaaLive17
import Derived.Test.YthnmpndofkgppaaLayOf
import Derived.Test.YthnmpndofkgppaaGuard
namespace Go.Proofs.Ythnmpndofkgppaa
open Go.RowKit
set_option linter.unusedVariables false
set_option linter.unusedSimpArgs false
set_option maxHeartbeats 8000000

theorem two_its {tB tW tA : TypeId} {kd : IntKind} {w0 w : World} {γ0 γ : Nat → Nat} {S : Nat → Prop} {p : Nat} {b : BS} (h : Its w0 γ0 S [itB tB tW tA kd 1 p b] w γ) (T : TypeId) (cs ds : Array Value) :
    ∃ γ', Its w0 γ0 S [itB tB tW tA kd 1 p b, itK 2 w.heap.size T cs, itK 5 (w.heap.size + 1) T ds] ((w.alloc (.cells cs T)).alloc (.cells ds T)) γ' := by
  have h1 := h.box 2 T cs (by decide) (by intro x hx; rw [List.mem_singleton.1 hx]; exact (by decide : (1 : Nat) ≠ 2))
  have h2 := h1.box 5 T ds (by decide) (by intro x hx; rcases List.mem_cons.1 hx with rfl | hx; exact (by decide : (1 : Nat) ≠ 5); rw [List.mem_singleton.1 hx]; exact (by decide : (2 : Nat) ≠ 5))
  rw [show (w.alloc (.cells cs T)).heap.size = w.heap.size + 1 by simp] at h2
  exact ⟨_, h2⟩
theorem publish_at {M : Int} {b : BS} (hm : b.hasM = true) (t p : Int) {k n : Nat} (hk : k < n) (f : FrS) (hn : f.n = n) (hp : f.from_ = p) (hi : f.i = k) :
    publishP M b t f = (decide (k + 1 = n), b.mlay t (addM M p k), { f with i := if k + 1 = n then 0 else (k : Int) + 1 }) := by
  unfold publishP
  rw [if_neg (by simp [hm]), if_pos (show f.inside by unfold FrS.inside; omega), hp, hi, hn]
  by_cases h : k + 1 = n
  · rw [if_neg (by omega), if_pos h, decide_eq_true h]
  · rw [if_pos (by omega), if_neg h, decide_eq_false h]
theorem mlook_l {b : BS} (t p : Int) : (b.mlook t p).2.l = b.l := by unfold BS.mlook BS.read BS.load; split <;> split <;> rfl
theorem mlook_marked {M : Int} {b : BS} (hf : b.Fit M) (hm : b.hasM = true) (t p : Int) : (b.mlook t p).1 = b.marked p ∧ (∀ q, (b.mlook t p).2.marked q = b.marked q) ∧ (b.mlook t p).2.log.length = b.log.length + 1 := by
  have hk := (hf.marks hm p).2.2.2
  unfold BS.mlook
  split
  · rename_i h2
    rw [if_pos h2] at hk
    unfold BS.read
    rw [if_pos hk]
    exact ⟨by unfold BS.marked; rw [hm, Bool.true_and], fun q => rfl, by simp [BS.look, BS.note]⟩
  · rename_i h2
    rw [if_neg h2] at hk
    unfold BS.load
    rw [if_pos hk]
    exact ⟨by unfold BS.marked; rw [hm, Bool.true_and], fun q => rfl, by simp [BS.look, BS.note]⟩
theorem Upto.look {M : Int} {b : BS} {p : Int} {n : Nat} (h : Upto M b p n) (t q : Int) : Upto M (b.mlook t q).2 p n := by
  obtain ⟨h1, h2, h3⟩ := mlook_marked h.fit h.has t q
  have hl := mlook_l (b := b) t q
  exact ⟨h.fit.mlook t q, by unfold BS.hasM; rw [hl]; exact h.has, fun i hi => by rw [h2]; exact h.yes i hi, fun i hi hc => by rw [h2]; rw [hl] at hc; exact h.no i hi hc⟩
theorem its_oneF {w0 w : World} {γ : Nat → Nat} {x : It} (h : Old w0 w γ) (hx : x.P w γ) (hi : x.id ≠ 0) : Its w0 (fun _ => 0) NoId [x] w γ :=
  ⟨h.bel.os, h.bel.tape, h.bel.output, h.bel.size, fun b hb _ => ⟨h.bel.block b hb, h.lab b hb⟩, fun _ _ h => h.elim, fun y hy => by rw [List.mem_singleton.1 hy]; exact hx, fun y hy => by rw [List.mem_singleton.1 hy]; exact hi, by simp⟩
theorem mk235F {v : Int} (h : v = 2 ∨ v = 3 ∨ v = 5) : mkKind v ≠ 0 := by rcases h with rfl | rfl | rfl <;> decide
theorem mf_base {B W w : World} {γ0 γ : Nat → Nat} {S : Nat → Prop} {L : List It} {g : Nat} {t : TypeId} {cs : Array Value} (h : Its W γ0 S L w γ) (hb : Blk W g t cs) (hw : Below B.heap.size B W) :
    ∃ B0, Its B0 γ0 S L w γ ∧ Blk B0 g t cs ∧ Below B.heap.size B B0 := ⟨W, h, hb, hw⟩
theorem addM_next {M p : Int} {k : Nat} : addM M (addM M p k) 1 = addM M p ((k + 1 : Nat) : Int) := by
  unfold addM
  rw [Int.emod_add_emod]
  congr 1
  omega
theorem addM_zero {p : Int} (hp : InM M32 p) : addM M32 p ((0 : Nat) : Int) = p := by unfold InM M32 at hp; unfold addM M32; omega
theorem dif_add {p : Int} {n : Nat} (hp : InM M32 p) (hn : n ≤ 64) : difM M32 (addM M32 p n) p = n := by
  unfold InM M32 at hp; unfold difM sgM addM M32; split <;> omega
section
variable (w0 : World)
set_option maxRecDepth 100000 in
theorem markFinds_eq (c : Cf) (up : List (List Int)) (hun : c.un = up.length) (hU : UpAt w0 (fun b => b < w0.heap.size) c.ua up) (hlen : up.length ≤ maxLen) (hll : ∀ l ∈ up, l.length ≤ maxLen) (hst : 0 ≤ c.start ∧ c.start ≤ 18446744073709551615) (n : Int) (hQ : n = c.cap) :
    Calls Try.prog 3 #[.agg c.vs.toArray, .int .i64 n] w0 fun e w' => e = .returned (.bool true) ∧ Below w0.heap.size w0 w' := by
  have HV := Lib.hid live17
  have HQ := Lib.hid hQ
  clear hQ
  have hlo := fun W (hW : Below w0.heap.size w0 W) => llongB _ up c.ua c.uc hlen hll W (hU.below hW (fun b hb => hb))
  by_cases hs : ShortUp up
  · have hsb : (!decide (ShortUp up)) = false := by simp [hs]
    simp only [hsb] at hlo
    have hll6 : ∀ l ∈ up, l.length ≤ 1000000 := fun l hl => by have := hs.2 l hl; omega
    have hlen6 : up.length ≤ 1000000 := by have := hs.1; omega
    have hri := fun W (hW : Below w0.heap.size w0 W) => rrightOf _ c up hun hlen6 hll6 W (fun b hb => Nat.lt_of_lt_of_le hb hW.size) (hU.below hW (fun b hb => hb))
    by_cases hc : confCode c up = 0
    · have hok := cfOk_of_code hc
      simp only [show (confCode c up == 0) = true by simp [hc]] at hri
      by_cases hwid : c.width = 32
      · obtain ⟨variant, width, cap, producers, start, ua, un, uc⟩ := c
        unfold Cf.vs at *
        dsimp only at *
        subst hwid
        have HLO := Lib.hid hlo
        have HRI := Lib.hid hri
        have hvar := hok.variant
        have hcap := hok.cap
        by_cases hv1 : variant = 1
        · subst hv1 hun; clear hlo hri hU hll hlen hll6 hlen6 hs hsb hst hc hok
          go_enter Try.func3, Try.ntmps3
          go_wp2_with (first | (go_at_call 5; refine (HLO.out _ (by (repeat (with_reducible first | exact Below.refl _ _ | refine Below.drew ?_ | refine below_drewN ?_ _ | refine Below.setCell ?_ ?_ _ | refine Below.alloc ?_ ?_ _)); all_goals first | omega | (dsimp only; omega) | (simp; omega))).mono ?_; rintro e w' ⟨rfl, rfl⟩) | (go_at_call 6; refine (HRI.out _ (by (repeat (with_reducible first | exact Below.refl _ _ | refine Below.drew ?_ | refine below_drewN ?_ _ | refine Below.setCell ?_ ?_ _ | refine Below.alloc ?_ ?_ _)); all_goals first | omega | (dsimp only; omega) | (simp; omega))).mono ?_; rintro e w2 ⟨rfl, hb2⟩; obtain ⟨hc2, hf2⟩ := bcell hb2; have hz2 := hb2.size; have HCF2 := Lib.hid ((Blk.new w0 25 _).below hb2 (by simp)); have HB2 := Lib.hid hb2; clear hb2) | (go_at_call 7; refine (HV.out _).mono ?_; rintro e w9 ⟨rfl, hb9⟩; have HB9 := Lib.hid hb9; clear hb9))
          go_ret
          exact ⟨rfl, below_new (HB2.out.trans (HB9.out.mono HB2.out.size))⟩
        by_cases hv4 : variant = 4
        · subst hv4 hun; clear hlo hri hU hll hlen hll6 hlen6 hs hsb hst hc hok
          go_enter Try.func3, Try.ntmps3
          go_wp2_with (first | (go_at_call 5; refine (HLO.out _ (by (repeat (with_reducible first | exact Below.refl _ _ | refine Below.drew ?_ | refine below_drewN ?_ _ | refine Below.setCell ?_ ?_ _ | refine Below.alloc ?_ ?_ _)); all_goals first | omega | (dsimp only; omega) | (simp; omega))).mono ?_; rintro e w' ⟨rfl, rfl⟩) | (go_at_call 6; refine (HRI.out _ (by (repeat (with_reducible first | exact Below.refl _ _ | refine Below.drew ?_ | refine below_drewN ?_ _ | refine Below.setCell ?_ ?_ _ | refine Below.alloc ?_ ?_ _)); all_goals first | omega | (dsimp only; omega) | (simp; omega))).mono ?_; rintro e w2 ⟨rfl, hb2⟩; obtain ⟨hc2, hf2⟩ := bcell hb2; have hz2 := hb2.size; have HCF2 := Lib.hid ((Blk.new w0 25 _).below hb2 (by simp)); have HB2 := Lib.hid hb2; clear hb2) | (go_at_call 7; refine (HV.out _).mono ?_; rintro e w9 ⟨rfl, hb9⟩; have HB9 := Lib.hid hb9; clear hb9))
          go_ret
          exact ⟨rfl, below_new (HB2.out.trans (HB9.out.mono HB2.out.size))⟩
        have hw1 : (variant == 1) = false := by simp [hv1]
        have hw4 : (variant == 4) = false := by simp [hv4]
        by_cases hn0 : n < 0
        · subst hun; clear hlo hri hU hll hlen hll6 hlen6 hs hsb hst hc hok
          go_enter Try.func3, Try.ntmps3
          go_wp2_with (first | (go_at_call 5; refine (HLO.out _ (by (repeat (with_reducible first | exact Below.refl _ _ | refine Below.drew ?_ | refine below_drewN ?_ _ | refine Below.setCell ?_ ?_ _ | refine Below.alloc ?_ ?_ _)); all_goals first | omega | (dsimp only; omega) | (simp; omega))).mono ?_; rintro e w' ⟨rfl, rfl⟩) | (go_at_call 6; refine (HRI.out _ (by (repeat (with_reducible first | exact Below.refl _ _ | refine Below.drew ?_ | refine below_drewN ?_ _ | refine Below.setCell ?_ ?_ _ | refine Below.alloc ?_ ?_ _)); all_goals first | omega | (dsimp only; omega) | (simp; omega))).mono ?_; rintro e w2 ⟨rfl, hb2⟩; obtain ⟨hc2, hf2⟩ := bcell hb2; have hz2 := hb2.size; have HCF2 := Lib.hid ((Blk.new w0 25 _).below hb2 (by simp)); have HB2 := Lib.hid hb2; clear hb2) | (go_at_call 7; refine (HV.out _).mono ?_; rintro e w9 ⟨rfl, hb9⟩; have HB9 := Lib.hid hb9; clear hb9))
          go_ret
          exact ⟨rfl, below_new (HB2.out.trans (HB9.out.mono HB2.out.size))⟩
        have hn0b : ¬ n < 0 := hn0
        by_cases hnc : cap < n
        · subst hun; clear hlo hri hU hll hlen hll6 hlen6 hs hsb hst hc hok
          go_enter Try.func3, Try.ntmps3
          go_wp2_with (first | (go_at_call 5; refine (HLO.out _ (by (repeat (with_reducible first | exact Below.refl _ _ | refine Below.drew ?_ | refine below_drewN ?_ _ | refine Below.setCell ?_ ?_ _ | refine Below.alloc ?_ ?_ _)); all_goals first | omega | (dsimp only; omega) | (simp; omega))).mono ?_; rintro e w' ⟨rfl, rfl⟩) | (go_at_call 6; refine (HRI.out _ (by (repeat (with_reducible first | exact Below.refl _ _ | refine Below.drew ?_ | refine below_drewN ?_ _ | refine Below.setCell ?_ ?_ _ | refine Below.alloc ?_ ?_ _)); all_goals first | omega | (dsimp only; omega) | (simp; omega))).mono ?_; rintro e w2 ⟨rfl, hb2⟩; obtain ⟨hc2, hf2⟩ := bcell hb2; have hz2 := hb2.size; have HCF2 := Lib.hid ((Blk.new w0 25 _).below hb2 (by simp)); have HB2 := Lib.hid hb2; clear hb2) | (go_at_call 7; refine (HV.out _).mono ?_; rintro e w9 ⟨rfl, hb9⟩; have HB9 := Lib.hid hb9; clear hb9))
          go_ret
          exact ⟨rfl, below_new (HB2.out.trans (HB9.out.mono HB2.out.size))⟩
        obtain ⟨N, rfl⟩ : ∃ N : Nat, n = N := ⟨n.toNat, by omega⟩
        have hcb := hcap.bd
        dsimp only at hcb
        have hv3 : variant = 2 ∨ variant = 3 ∨ variant = 5 := by have h1 := hvar.1; have h2 := hvar.2; clear hvar; dsimp only at h1 h2; omega
        have hm : ∀ A3 c3, (newBS (mkLay ⟨variant, 32, cap, producers, start, A3, up.length, c3⟩)).hasM = true := fun A3 c3 => (made_marks _).trans (decide_eq_true (mk235F hv3))
        have HOF := Lib.hid (fun W (hW : Below w0.heap.size w0 W) => layof (fun b => b < w0.heap.size) ⟨variant, 32, cap, producers, start, ua, un, uc⟩ up hun hok hll6 W (fun b hb => Nat.lt_of_lt_of_le hb hW.size) (hU.below hW (fun b hb => hb)))
        have HNW := Lib.hid (fun (Bk : Nat → Prop) ua uc W hB hU => bnew32 Bk ⟨variant, 32, cap, producers, start, ua, un, uc⟩ up hun (hok.ua ua uc) rfl hst hll6 W hB hU)
        have HFT := Lib.hid (fun ua uc => newBS_fit ⟨variant, 32, cap, producers, start, ua, un, uc⟩ (hok.ua ua uc) hun)
        have HOV := Lib.hid (fun W => of32 start hst W)
        have hsv : ∀ A3 c3, startI ⟨variant, 32, cap, producers, start, A3, up.length, c3⟩ = cutM M32 start := fun A3 c3 => by unfold startI; rw [show MW (32 : Int) = M32 from MW_32]
        have hsi : InM M32 (cutM M32 start) := cutM_in32 _
        unfold Cf.vs at HOF
        unfold Lay.vs at HNW
        dsimp only at HFT HNW HOF
        subst hun
        have HSI := Lib.hid hsi
        clear hlo hri hU hll hlen hll6 hlen6 hs hsb hst hc hok hvar hcap hsi
        generalize hsg : cutM M32 start = sv at *
        have hN64 : N ≤ 64 := by omega
        have hNcap : (N : Int) ≤ cap := by omega
        go_enter Try.func3, Try.ntmps3
        go_wp2_with (first | (go_at_call 5; refine (HLO.out _ (by (repeat (with_reducible first | exact Below.refl _ _ | refine Below.drew ?_ | refine below_drewN ?_ _ | refine Below.setCell ?_ ?_ _ | refine Below.alloc ?_ ?_ _)); all_goals first | omega | (dsimp only; omega) | (simp; omega))).mono ?_; rintro e w' ⟨rfl, rfl⟩) | (go_at_call 6; refine (HRI.out _ (by (repeat (with_reducible first | exact Below.refl _ _ | refine Below.drew ?_ | refine below_drewN ?_ _ | refine Below.setCell ?_ ?_ _ | refine Below.alloc ?_ ?_ _)); all_goals first | omega | (dsimp only; omega) | (simp; omega))).mono ?_; rintro e w2 ⟨rfl, hb2⟩; obtain ⟨hc2, hf2⟩ := bcell hb2; have hz2 := hb2.size; have HCF2 := Lib.hid ((Blk.new w0 25 _).below hb2 (by simp)); have HB2 := Lib.hid hb2; clear hb2) | (go_at_call 7; refine (HV.out _).mono ?_; rintro e w9 ⟨rfl, hb9⟩; have HB9 := Lib.hid hb9; clear hb9) | (go_at_call 8; have hW1 := (((Below.refl w0.heap.size w0).alloc (Nat.le_refl _) _).trans (HB2.out.mono (by simp))); have hq := HOF.out _ hW1; refine hq.mono ?_; clear hq; rintro e w3 ⟨A3, c3, rfl, hcl3, hU3, hb3⟩; unfold Lay.vs; obtain ⟨hc3, hf3⟩ := bcell hb3; have HCF3 := Lib.hid (HCF2.out.below hb3 HCF2.out.lt); have HU3 := Lib.hid hU3; have hz3 := hb3.size; have HW3 := Lib.hid (hW1.trans (hb3.mono hW1.size)); clear hU3 hb3 hcl3 hW1) | (go_at_call 9; refine (HNW.out _ A3 c3 _ (by intro b hb; have := hb.2; simp; omega) (HU3.out.below (B := w3.heap.size) (by (repeat (with_reducible first | exact Below.refl _ _ | refine Below.drew ?_ | refine below_drewN ?_ _ | refine Below.setCell ?_ ?_ _ | refine Below.alloc ?_ ?_ _)); all_goals first | omega | (dsimp only; omega) | (simp; omega)) (fun b hb => hb.2))).mono ?_; intro e w4 hN; obtain ⟨p, γ4, rfl, hb4, hp4, hB4, hO4, hl4⟩ := new_old 92 (Below.refl _ _) hN; have hi4 := its_oneF hO4 (x := itB 68 36 92 .u32 1 p (newBS (mkLay ⟨variant, 32, cap, producers, start, A3, up.length, c3⟩))) hB4 (by decide : (1 : Nat) ≠ 0); have hex := mf_base hi4 (HCF3.out.alloc _) (HW3.out.alloc HW3.out.size _); obtain ⟨B0, hi4', hcf, hbw⟩ := hex; obtain ⟨u0, u1, u2, u3, u4, u5⟩ := blk_cells6 (hcf.below hi4'.bel hcf.lt); have HU0 := Lib.hid (Upto.new (HFT.out A3 c3) (hm A3 c3) hv4); have HI4 := Lib.hid hi4'; have HBASE := Lib.hid (And.intro hcf hbw); clear hN hb4 hp4 hB4 hO4 hl4 hi4 hi4' hcf hbw) | (go_at_call 10; refine (HOV.out _).mono ?_; rintro e w' ⟨rfl, rfl⟩))
        have hs5 := two_its HI4.out 41 (frsCs .u32 [] [{ n := N, from_ := sv }] []) (frsCs .u32 [] [{ val := sv }] [])
        obtain ⟨γ5, hs5⟩ := hs5
        have HI5 := Lib.hid hs5
        clear hs5 u0 u1 u2 u3 u4 u5
        go_loopw [11] (fun i wr => ∃ (k : Nat) (f : FrS) (γ : Nat → Nat) (b : BS), i = .int .i64 k ∧ k ≤ N ∧ Its B0 (fun _ => 0) NoId [itB 68 36 92 .u32 1 p b, itK 2 w4.heap.size 41 (frsCs .u32 [] [f] []), itK 5 (w4.heap.size + 1) 41 (frsCs .u32 [] [{ val := sv }] [])] wr γ ∧ f.n = N ∧ f.from_ = sv ∧ (k < N → f.i = k) ∧ Upto M32 b sv k ∧ b.log.length = k ∧ b.l.c.cap = cap) (fun i _ => N - (intOf i).toNat)
        case atStart => exact ⟨0, { n := N, from_ := sv }, γ5, _, rfl, by omega, HI5.out, rfl, rfl, fun _ => rfl, by have := HU0.out; rw [hsv A3 c3] at this; exact this, rfl, by show (mkLay _).c.cap = cap; rw [mkLay_c]⟩
        case round =>
          obtain ⟨k, f, γ, b, rfl, hk, hits, hfn, hff, hfi, hup, hlg, hbc⟩ := hrel
          have hwn : wrap64 ((N : Int) - 1) = (N : Int) - 1 := wrap64_id (by omega)
          by_cases hlt : k < N
          · have hlti : (k : Int) < N := by omega
            have hE := mpublish32 (bfI 41 1 2 p w4.heap.size (by decide)) wr γ wr γ b f (bfI_at hits.g0 hits.g1) hup.fit (by omega) 0 (by omega)
            rw [publish_at hup.has 0 sv hlt f hfn hff (hfi hlt)] at hE
            have HE := Lib.hid hE
            have HI := Lib.hid hits
            have HP := Lib.hid (And.intro (hup.lay (by rw [hbc]; omega) 0) (And.intro (show (b.mlay 0 (addM M32 sv k)).log.length = k + 1 by rw [hup.fit.mlay_log hup.has, hlg]) (show (b.mlay 0 (addM M32 sv k)).l.c.cap = cap by rw [hup.fit.mlay_l hup.has, hbc])))
            have HF := Lib.hid (And.intro hfn hff)
            clear hE hits hup hlg hbc hfn hff hfi
            by_cases hl : k + 1 = N
            · rw [decide_eq_true hl] at HE
              have hb1 : ((k : Int) == (N : Int) - 1) = true := by simp; omega
              go_wp2_with (go_at_call 11; refine HE.out.mono ?_; intro e w10 hq; obtain ⟨rfl, γ10, h10⟩ := HI.out.bf 0 1 (by decide) rfl rfl hq; have HI10 := Lib.hid h10; clear hq h10)
              go_round
              case rel => exact ⟨k + 1, _, γ10, _, by go_num, by omega, HI10.out, HF.out.1, HF.out.2, fun h => by omega, HP.out.1, HP.out.2.1, HP.out.2.2⟩
              case measure => simp only [intOf]; omega
            · rw [decide_eq_false hl] at HE
              have hb1 : ((k : Int) == (N : Int) - 1) = false := by simp; omega
              go_wp2_with (go_at_call 11; refine HE.out.mono ?_; intro e w10 hq; obtain ⟨rfl, γ10, h10⟩ := HI.out.bf 0 1 (by decide) rfl rfl hq; have HI10 := Lib.hid h10; clear hq h10)
              go_round
              case rel => exact ⟨k + 1, _, γ10, _, by go_num, by omega, HI10.out, HF.out.1, HF.out.2, fun h => by show (if k + 1 = N then (0 : Int) else (k : Int) + 1) = _; rw [if_neg hl]; omega, HP.out.1, HP.out.2.1, HP.out.2.2⟩
              case measure => simp only [intOf]; omega
          · obtain rfl : k = N := by omega
            have HI := Lib.hid hits
            have HP := Lib.hid (And.intro hup (And.intro hlg hbc))
            clear hits hup hlg hbc hfi
            go_wp2_with fail
            go_loopw [12] (fun i wr => ∃ (j : Nat) (g : FrS) (γ : Nat → Nat) (b : BS), i = .int .i64 j ∧ j ≤ k ∧ Its B0 (fun _ => 0) NoId [itB 68 36 92 .u32 1 p b, itK 2 w4.heap.size 41 (frsCs .u32 [] [f] []), itK 5 (w4.heap.size + 1) 41 (frsCs .u32 [] [g] [])] wr γ ∧ g.val = addM M32 sv j ∧ Upto M32 b sv k ∧ b.log.length = k + j ∧ b.l.c.cap = cap) (fun i _ => k - (intOf i).toNat)
            case atStart => exact ⟨0, { val := sv }, γ, b, rfl, by omega, HI.out, (addM_zero HSI.out).symm, HP.out.1, HP.out.2.1, HP.out.2.2⟩
            case round =>
              obtain ⟨j, g, γ2, b2, rfl, hj, hits, hgv, hup, hlg, hbc⟩ := hrel
              by_cases hjt : j < k
              · have hjti : (j : Int) < k := by omega
                have hE := mseek32 (bfI 41 1 5 p (w4.heap.size + 1) (by decide)) wr γ2 wr γ2 b2 g (bfI_at hits.g0 hits.g2) hup.fit (by omega) 1 (by rw [hgv]; exact addM_in32 _ _)
                obtain ⟨hk1, hk2, hk3⟩ := mlook_marked hup.fit hup.has 1 g.val
                have hse : seekP M32 b2 1 g = (false, (b2.mlook 1 g.val).2, { g with val := addM M32 g.val 1 }) := by
                  unfold seekP
                  rw [if_neg (by simp [hup.has]), if_pos (by rw [hk1, hgv]; exact hup.yes j hjt)]
                rw [hse] at hE
                dsimp only at hE
                have HI2 := Lib.hid hits
                have HP2 := Lib.hid (And.intro (hup.look 1 g.val) (And.intro (show (b2.mlook 1 g.val).2.log.length = k + (j + 1) by rw [hk3, hlg]; omega) (And.intro (show (b2.mlook 1 g.val).2.l.c.cap = cap by rw [mlook_l, hbc]) (show addM M32 g.val 1 = addM M32 sv ((j + 1 : Nat) : Int) by rw [hgv, addM_next]))))
                clear hse hk1 hk2 hk3 hits hup hlg hbc hgv
                generalize (b2.mlook 1 g.val).2 = b3 at *
                generalize addM M32 g.val 1 = gv at *
                have HE := Lib.hid hE
                clear hE
                go_wp2_with (go_at_call 12; refine HE.out.mono ?_; intro e w10 hq; obtain ⟨rfl, γ10, h10⟩ := HI2.out.bf 0 2 (by decide) rfl rfl hq; have HI10 := Lib.hid h10; clear hq h10)
                go_roundw
                case rel => exact ⟨j + 1, _, γ10, b3, by go_num, by omega, HI10.out, HP2.out.2.2.2, HP2.out.1, HP2.out.2.1, HP2.out.2.2.1⟩
                case measure => simp only [intOf]; omega
              · obtain rfl : j = k := by omega
                have hnot : b2.marked (addM M32 sv j) = false := by
                  by_cases hjc : (j : Int) < cap
                  · exact hup.no j (Nat.le_refl _) (by rw [hbc]; exact hjc)
                  · exact hup.next (by rw [hbc]; omega) (by omega)
                obtain ⟨hk1, hk2, hk3⟩ := mlook_marked hup.fit hup.has 1 g.val
                have hse : seekP M32 b2 1 g = (true, (b2.mlook 1 g.val).2, g) := by
                  unfold seekP
                  rw [if_neg (by simp [hup.has]), if_neg (by rw [hk1, hgv, hnot]; decide)]
                have hln : (((b2.mlook 1 g.val).2.log.length : Nat) : Int) = 2 * j + 1 := by rw [hk3, hlg]; omega
                generalize (b2.mlook 1 g.val).2 = b3 at *
                have HSK := Lib.hid (show ∀ W γ', Its B0 (fun _ => 0) NoId [itB 68 36 92 .u32 1 p b2, itK 2 w4.heap.size 41 (frsCs .u32 [] [f] []), itK 5 (w4.heap.size + 1) 41 (frsCs .u32 [] [g] [])] W γ' → Calls Try.prog 12 #[.pointer (some ⟨p, 0, none⟩), .int .i64 1, .pointer (some ⟨w4.heap.size + 1, 0, none⟩)] W (BFEnd 68 36 92 .u32 (bfI 41 1 5 p (w4.heap.size + 1) (by decide)) W γ' (.bool true) b3 g) by
                  intro W γ' h
                  have hq := mseek32 (bfI 41 1 5 p (w4.heap.size + 1) (by decide)) W γ' W γ' b2 g (bfI_at h.g0 h.g2) hup.fit (by omega) 1 (by rw [hgv]; exact addM_in32 _ _)
                  rw [hse] at hq
                  exact hq)
                have HMK := Lib.hid (show ∀ W γ', Its B0 (fun _ => 0) NoId [itB 68 36 92 .u32 1 p b2, itK 2 w4.heap.size 41 (frsCs .u32 [] [f] []), itK 5 (w4.heap.size + 1) 41 (frsCs .u32 [] [g] [])] W γ' → Calls Try.prog 13 #[.pointer (some ⟨p, 0, none⟩), .int .u32 (addM M32 sv j)] W fun e w' => e = .returned (.bool false) ∧ Below W.heap.size W w' by
                  intro W γ' h
                  have hq := mmarked32 W γ' 1 p b2 h.g0 hup.fit (addM M32 sv j) (addM_in32 _ _)
                  rw [hnot] at hq
                  exact hq)
                have HLE := Lib.hid (show ∀ W γ', Its B0 (fun _ => 0) NoId [itB 68 36 92 .u32 1 p b3, itK 2 w4.heap.size 41 (frsCs .u32 [] [f] []), itK 5 (w4.heap.size + 1) 41 (frsCs .u32 [] [g] [])] W γ' → Calls Try.prog 16 #[.pointer (some ⟨p, 0, none⟩)] W fun e w' => e = .returned (.int .i64 (2 * j + 1)) ∧ W = w' by
                  intro W γ' h
                  have hq := bLen32 W γ' 1 p b3 h.g0
                  rw [hln] at hq
                  exact hq)
                have hcc : wr.cell? ⟨w0.heap.size, 2, none⟩ = some (.int .i64 cap) := (HBASE.out.1.below hits.bel HBASE.out.1.lt).cell 2
                have hdf := dif_add (n := j) HSI.out hN64
                have HG := Lib.hid hgv
                have hm2 : wrap64 (2 * (j : Int)) = 2 * (j : Int) := wrap64_id (by omega)
                have hm3 : wrap64 (2 * (j : Int) + 1) = 2 * (j : Int) + 1 := wrap64_id (by omega)
                have HI2 := Lib.hid hits
                clear hse hk1 hk2 hk3 hits hup hlg hbc hnot hln hgv
                by_cases hjc : (j : Int) = cap
                · have hjb : ((j : Int) == cap) = true := by simp [hjc]
                  clear hjc
                  go_wp2_with (first
                    | (go_at_call 7; refine (HV.out _).mono ?_; rintro e w9 ⟨rfl, hb9⟩; have HB9 := Lib.hid hb9; clear hb9)
                    | (go_at_call 16; refine (HLE.out _ _ HI11.out).mono ?_; rintro e w' ⟨rfl, rfl⟩)
                    | (go_at_call 15; refine (diff32 _ _ _).mono ?_; rintro e w' ⟨rfl, rfl⟩; rw [HG.out, hdf])
                    | (go_at_call 12; refine (HSK.out _ _ HI10.out).mono ?_; intro e w11 hq; obtain ⟨rfl, γ11, h11⟩ := HI10.out.bf 0 2 (by decide) rfl rfl hq; have g8 : w11.cell? ⟨w4.heap.size + 1, 8, none⟩ = some (.int .u32 g.val) := h11.g2.1.cell 8; have HI11 := Lib.hid h11; clear hq h11)
                    | (go_at_call 13; refine (HMK.out _ _ HI2.out).mono ?_; rintro e w10 ⟨rfl, hb10⟩; have HI10 := Lib.hid (HI2.out.below hb10); clear hb10)
                    | (go_at_call 14; refine (add32 _ _ _).mono ?_; rintro e w' ⟨rfl, rfl⟩))
                  go_ret
                  exact ⟨rfl, HBASE.out.2.trans ((HI11.out.bel.trans (HB9.out.mono HI11.out.bel.size)).mono HBASE.out.2.size)⟩
                · exact absurd HQ.out hjc
      · have hwb : (c.width != 32) = true := by simp [hwid]
        obtain ⟨variant, width, cap, producers, start, ua, un, uc⟩ := c
        unfold Cf.vs at *
        dsimp only at *
        subst hun
        have HLO := Lib.hid hlo
        have HRI := Lib.hid hri
        clear hlo hri hU hll hlen hll6 hlen6 hs hsb hst hc hok hwid
        go_enter Try.func3, Try.ntmps3
        go_wp2_with (first | (go_at_call 5; refine (HLO.out _ (by (repeat (with_reducible first | exact Below.refl _ _ | refine Below.drew ?_ | refine below_drewN ?_ _ | refine Below.setCell ?_ ?_ _ | refine Below.alloc ?_ ?_ _)); all_goals first | omega | (dsimp only; omega) | (simp; omega))).mono ?_; rintro e w' ⟨rfl, rfl⟩) | (go_at_call 6; refine (HRI.out _ (by (repeat (with_reducible first | exact Below.refl _ _ | refine Below.drew ?_ | refine below_drewN ?_ _ | refine Below.setCell ?_ ?_ _ | refine Below.alloc ?_ ?_ _)); all_goals first | omega | (dsimp only; omega) | (simp; omega))).mono ?_; rintro e w2 ⟨rfl, hb2⟩; obtain ⟨hc2, hf2⟩ := bcell hb2; have hz2 := hb2.size; have HCF2 := Lib.hid ((Blk.new w0 25 _).below hb2 (by simp)); have HB2 := Lib.hid hb2; clear hb2) | (go_at_call 7; refine (HV.out _).mono ?_; rintro e w9 ⟨rfl, hb9⟩; have HB9 := Lib.hid hb9; clear hb9))
        go_ret
        exact ⟨rfl, below_new (HB2.out.trans (HB9.out.mono HB2.out.size))⟩
    · simp only [show (confCode c up == 0) = false by simp [hc]] at hri
      obtain ⟨variant, width, cap, producers, start, ua, un, uc⟩ := c
      unfold Cf.vs at *
      dsimp only at *
      subst hun
      have HLO := Lib.hid hlo
      have HRI := Lib.hid hri
      clear hlo hri hU hll hlen hll6 hlen6 hs hsb hst hc
      go_enter Try.func3, Try.ntmps3
      go_wp2_with (first | (go_at_call 5; refine (HLO.out _ (by (repeat (with_reducible first | exact Below.refl _ _ | refine Below.drew ?_ | refine below_drewN ?_ _ | refine Below.setCell ?_ ?_ _ | refine Below.alloc ?_ ?_ _)); all_goals first | omega | (dsimp only; omega) | (simp; omega))).mono ?_; rintro e w' ⟨rfl, rfl⟩) | (go_at_call 6; refine (HRI.out _ (by (repeat (with_reducible first | exact Below.refl _ _ | refine Below.drew ?_ | refine below_drewN ?_ _ | refine Below.setCell ?_ ?_ _ | refine Below.alloc ?_ ?_ _)); all_goals first | omega | (dsimp only; omega) | (simp; omega))).mono ?_; rintro e w2 ⟨rfl, hb2⟩; obtain ⟨hc2, hf2⟩ := bcell hb2; have hz2 := hb2.size; have HCF2 := Lib.hid ((Blk.new w0 25 _).below hb2 (by simp)); have HB2 := Lib.hid hb2; clear hb2) | (go_at_call 7; refine (HV.out _).mono ?_; rintro e w9 ⟨rfl, hb9⟩; have HB9 := Lib.hid hb9; clear hb9))
      go_ret
      exact ⟨rfl, below_new (HB2.out.trans (HB9.out.mono HB2.out.size))⟩
  · simp only [show (!decide (ShortUp up)) = true by simp [hs]] at hlo
    obtain ⟨variant, width, cap, producers, start, ua, un, uc⟩ := c
    unfold Cf.vs at *
    dsimp only at *
    subst hun
    have HLO := Lib.hid hlo
    clear hlo hU hll hlen hs hst
    go_enter Try.func3, Try.ntmps3
    go_wp2_with (first | (go_at_call 5; refine (HLO.out _ (by (repeat (with_reducible first | exact Below.refl _ _ | refine Below.drew ?_ | refine below_drewN ?_ _ | refine Below.setCell ?_ ?_ _ | refine Below.alloc ?_ ?_ _)); all_goals first | omega | (dsimp only; omega) | (simp; omega))).mono ?_; rintro e w' ⟨rfl, rfl⟩) | (go_at_call 7; refine (HV.out _).mono ?_; rintro e w9 ⟨rfl, hb9⟩; have HB9 := Lib.hid hb9; clear hb9))
    go_ret
    exact ⟨rfl, below_new HB9.out⟩
set_option maxRecDepth 100000 in
theorem markFinds_ne (c : Cf) (up : List (List Int)) (hun : c.un = up.length) (hU : UpAt w0 (fun b => b < w0.heap.size) c.ua up) (hlen : up.length ≤ maxLen) (hll : ∀ l ∈ up, l.length ≤ maxLen) (hst : 0 ≤ c.start ∧ c.start ≤ 18446744073709551615) (n : Int) (hQ : n ≠ c.cap) :
    Calls Try.prog 3 #[.agg c.vs.toArray, .int .i64 n] w0 fun e w' => e = .returned (.bool true) ∧ Below w0.heap.size w0 w' := by
  have HV := Lib.hid live17
  have HQ := Lib.hid hQ
  clear hQ
  have hlo := fun W (hW : Below w0.heap.size w0 W) => llongB _ up c.ua c.uc hlen hll W (hU.below hW (fun b hb => hb))
  by_cases hs : ShortUp up
  · have hsb : (!decide (ShortUp up)) = false := by simp [hs]
    simp only [hsb] at hlo
    have hll6 : ∀ l ∈ up, l.length ≤ 1000000 := fun l hl => by have := hs.2 l hl; omega
    have hlen6 : up.length ≤ 1000000 := by have := hs.1; omega
    have hri := fun W (hW : Below w0.heap.size w0 W) => rrightOf _ c up hun hlen6 hll6 W (fun b hb => Nat.lt_of_lt_of_le hb hW.size) (hU.below hW (fun b hb => hb))
    by_cases hc : confCode c up = 0
    · have hok := cfOk_of_code hc
      simp only [show (confCode c up == 0) = true by simp [hc]] at hri
      by_cases hwid : c.width = 32
      · obtain ⟨variant, width, cap, producers, start, ua, un, uc⟩ := c
        unfold Cf.vs at *
        dsimp only at *
        subst hwid
        have HLO := Lib.hid hlo
        have HRI := Lib.hid hri
        have hvar := hok.variant
        have hcap := hok.cap
        by_cases hv1 : variant = 1
        · subst hv1 hun; clear hlo hri hU hll hlen hll6 hlen6 hs hsb hst hc hok
          go_enter Try.func3, Try.ntmps3
          go_wp2_with (first | (go_at_call 5; refine (HLO.out _ (by (repeat (with_reducible first | exact Below.refl _ _ | refine Below.drew ?_ | refine below_drewN ?_ _ | refine Below.setCell ?_ ?_ _ | refine Below.alloc ?_ ?_ _)); all_goals first | omega | (dsimp only; omega) | (simp; omega))).mono ?_; rintro e w' ⟨rfl, rfl⟩) | (go_at_call 6; refine (HRI.out _ (by (repeat (with_reducible first | exact Below.refl _ _ | refine Below.drew ?_ | refine below_drewN ?_ _ | refine Below.setCell ?_ ?_ _ | refine Below.alloc ?_ ?_ _)); all_goals first | omega | (dsimp only; omega) | (simp; omega))).mono ?_; rintro e w2 ⟨rfl, hb2⟩; obtain ⟨hc2, hf2⟩ := bcell hb2; have hz2 := hb2.size; have HCF2 := Lib.hid ((Blk.new w0 25 _).below hb2 (by simp)); have HB2 := Lib.hid hb2; clear hb2) | (go_at_call 7; refine (HV.out _).mono ?_; rintro e w9 ⟨rfl, hb9⟩; have HB9 := Lib.hid hb9; clear hb9))
          go_ret
          exact ⟨rfl, below_new (HB2.out.trans (HB9.out.mono HB2.out.size))⟩
        by_cases hv4 : variant = 4
        · subst hv4 hun; clear hlo hri hU hll hlen hll6 hlen6 hs hsb hst hc hok
          go_enter Try.func3, Try.ntmps3
          go_wp2_with (first | (go_at_call 5; refine (HLO.out _ (by (repeat (with_reducible first | exact Below.refl _ _ | refine Below.drew ?_ | refine below_drewN ?_ _ | refine Below.setCell ?_ ?_ _ | refine Below.alloc ?_ ?_ _)); all_goals first | omega | (dsimp only; omega) | (simp; omega))).mono ?_; rintro e w' ⟨rfl, rfl⟩) | (go_at_call 6; refine (HRI.out _ (by (repeat (with_reducible first | exact Below.refl _ _ | refine Below.drew ?_ | refine below_drewN ?_ _ | refine Below.setCell ?_ ?_ _ | refine Below.alloc ?_ ?_ _)); all_goals first | omega | (dsimp only; omega) | (simp; omega))).mono ?_; rintro e w2 ⟨rfl, hb2⟩; obtain ⟨hc2, hf2⟩ := bcell hb2; have hz2 := hb2.size; have HCF2 := Lib.hid ((Blk.new w0 25 _).below hb2 (by simp)); have HB2 := Lib.hid hb2; clear hb2) | (go_at_call 7; refine (HV.out _).mono ?_; rintro e w9 ⟨rfl, hb9⟩; have HB9 := Lib.hid hb9; clear hb9))
          go_ret
          exact ⟨rfl, below_new (HB2.out.trans (HB9.out.mono HB2.out.size))⟩
        have hw1 : (variant == 1) = false := by simp [hv1]
        have hw4 : (variant == 4) = false := by simp [hv4]
        by_cases hn0 : n < 0
        · subst hun; clear hlo hri hU hll hlen hll6 hlen6 hs hsb hst hc hok
          go_enter Try.func3, Try.ntmps3
          go_wp2_with (first | (go_at_call 5; refine (HLO.out _ (by (repeat (with_reducible first | exact Below.refl _ _ | refine Below.drew ?_ | refine below_drewN ?_ _ | refine Below.setCell ?_ ?_ _ | refine Below.alloc ?_ ?_ _)); all_goals first | omega | (dsimp only; omega) | (simp; omega))).mono ?_; rintro e w' ⟨rfl, rfl⟩) | (go_at_call 6; refine (HRI.out _ (by (repeat (with_reducible first | exact Below.refl _ _ | refine Below.drew ?_ | refine below_drewN ?_ _ | refine Below.setCell ?_ ?_ _ | refine Below.alloc ?_ ?_ _)); all_goals first | omega | (dsimp only; omega) | (simp; omega))).mono ?_; rintro e w2 ⟨rfl, hb2⟩; obtain ⟨hc2, hf2⟩ := bcell hb2; have hz2 := hb2.size; have HCF2 := Lib.hid ((Blk.new w0 25 _).below hb2 (by simp)); have HB2 := Lib.hid hb2; clear hb2) | (go_at_call 7; refine (HV.out _).mono ?_; rintro e w9 ⟨rfl, hb9⟩; have HB9 := Lib.hid hb9; clear hb9))
          go_ret
          exact ⟨rfl, below_new (HB2.out.trans (HB9.out.mono HB2.out.size))⟩
        have hn0b : ¬ n < 0 := hn0
        by_cases hnc : cap < n
        · subst hun; clear hlo hri hU hll hlen hll6 hlen6 hs hsb hst hc hok
          go_enter Try.func3, Try.ntmps3
          go_wp2_with (first | (go_at_call 5; refine (HLO.out _ (by (repeat (with_reducible first | exact Below.refl _ _ | refine Below.drew ?_ | refine below_drewN ?_ _ | refine Below.setCell ?_ ?_ _ | refine Below.alloc ?_ ?_ _)); all_goals first | omega | (dsimp only; omega) | (simp; omega))).mono ?_; rintro e w' ⟨rfl, rfl⟩) | (go_at_call 6; refine (HRI.out _ (by (repeat (with_reducible first | exact Below.refl _ _ | refine Below.drew ?_ | refine below_drewN ?_ _ | refine Below.setCell ?_ ?_ _ | refine Below.alloc ?_ ?_ _)); all_goals first | omega | (dsimp only; omega) | (simp; omega))).mono ?_; rintro e w2 ⟨rfl, hb2⟩; obtain ⟨hc2, hf2⟩ := bcell hb2; have hz2 := hb2.size; have HCF2 := Lib.hid ((Blk.new w0 25 _).below hb2 (by simp)); have HB2 := Lib.hid hb2; clear hb2) | (go_at_call 7; refine (HV.out _).mono ?_; rintro e w9 ⟨rfl, hb9⟩; have HB9 := Lib.hid hb9; clear hb9))
          go_ret
          exact ⟨rfl, below_new (HB2.out.trans (HB9.out.mono HB2.out.size))⟩
        obtain ⟨N, rfl⟩ : ∃ N : Nat, n = N := ⟨n.toNat, by omega⟩
        have hcb := hcap.bd
        dsimp only at hcb
        have hv3 : variant = 2 ∨ variant = 3 ∨ variant = 5 := by have h1 := hvar.1; have h2 := hvar.2; clear hvar; dsimp only at h1 h2; omega
        have hm : ∀ A3 c3, (newBS (mkLay ⟨variant, 32, cap, producers, start, A3, up.length, c3⟩)).hasM = true := fun A3 c3 => (made_marks _).trans (decide_eq_true (mk235F hv3))
        have HOF := Lib.hid (fun W (hW : Below w0.heap.size w0 W) => layof (fun b => b < w0.heap.size) ⟨variant, 32, cap, producers, start, ua, un, uc⟩ up hun hok hll6 W (fun b hb => Nat.lt_of_lt_of_le hb hW.size) (hU.below hW (fun b hb => hb)))
        have HNW := Lib.hid (fun (Bk : Nat → Prop) ua uc W hB hU => bnew32 Bk ⟨variant, 32, cap, producers, start, ua, un, uc⟩ up hun (hok.ua ua uc) rfl hst hll6 W hB hU)
        have HFT := Lib.hid (fun ua uc => newBS_fit ⟨variant, 32, cap, producers, start, ua, un, uc⟩ (hok.ua ua uc) hun)
        have HOV := Lib.hid (fun W => of32 start hst W)
        have hsv : ∀ A3 c3, startI ⟨variant, 32, cap, producers, start, A3, up.length, c3⟩ = cutM M32 start := fun A3 c3 => by unfold startI; rw [show MW (32 : Int) = M32 from MW_32]
        have hsi : InM M32 (cutM M32 start) := cutM_in32 _
        unfold Cf.vs at HOF
        unfold Lay.vs at HNW
        dsimp only at HFT HNW HOF
        subst hun
        have HSI := Lib.hid hsi
        clear hlo hri hU hll hlen hll6 hlen6 hs hsb hst hc hok hvar hcap hsi
        generalize hsg : cutM M32 start = sv at *
        have hN64 : N ≤ 64 := by omega
        have hNcap : (N : Int) ≤ cap := by omega
        go_enter Try.func3, Try.ntmps3
        go_wp2_with (first | (go_at_call 5; refine (HLO.out _ (by (repeat (with_reducible first | exact Below.refl _ _ | refine Below.drew ?_ | refine below_drewN ?_ _ | refine Below.setCell ?_ ?_ _ | refine Below.alloc ?_ ?_ _)); all_goals first | omega | (dsimp only; omega) | (simp; omega))).mono ?_; rintro e w' ⟨rfl, rfl⟩) | (go_at_call 6; refine (HRI.out _ (by (repeat (with_reducible first | exact Below.refl _ _ | refine Below.drew ?_ | refine below_drewN ?_ _ | refine Below.setCell ?_ ?_ _ | refine Below.alloc ?_ ?_ _)); all_goals first | omega | (dsimp only; omega) | (simp; omega))).mono ?_; rintro e w2 ⟨rfl, hb2⟩; obtain ⟨hc2, hf2⟩ := bcell hb2; have hz2 := hb2.size; have HCF2 := Lib.hid ((Blk.new w0 25 _).below hb2 (by simp)); have HB2 := Lib.hid hb2; clear hb2) | (go_at_call 7; refine (HV.out _).mono ?_; rintro e w9 ⟨rfl, hb9⟩; have HB9 := Lib.hid hb9; clear hb9) | (go_at_call 8; have hW1 := (((Below.refl w0.heap.size w0).alloc (Nat.le_refl _) _).trans (HB2.out.mono (by simp))); have hq := HOF.out _ hW1; refine hq.mono ?_; clear hq; rintro e w3 ⟨A3, c3, rfl, hcl3, hU3, hb3⟩; unfold Lay.vs; obtain ⟨hc3, hf3⟩ := bcell hb3; have HCF3 := Lib.hid (HCF2.out.below hb3 HCF2.out.lt); have HU3 := Lib.hid hU3; have hz3 := hb3.size; have HW3 := Lib.hid (hW1.trans (hb3.mono hW1.size)); clear hU3 hb3 hcl3 hW1) | (go_at_call 9; refine (HNW.out _ A3 c3 _ (by intro b hb; have := hb.2; simp; omega) (HU3.out.below (B := w3.heap.size) (by (repeat (with_reducible first | exact Below.refl _ _ | refine Below.drew ?_ | refine below_drewN ?_ _ | refine Below.setCell ?_ ?_ _ | refine Below.alloc ?_ ?_ _)); all_goals first | omega | (dsimp only; omega) | (simp; omega)) (fun b hb => hb.2))).mono ?_; intro e w4 hN; obtain ⟨p, γ4, rfl, hb4, hp4, hB4, hO4, hl4⟩ := new_old 92 (Below.refl _ _) hN; have hi4 := its_oneF hO4 (x := itB 68 36 92 .u32 1 p (newBS (mkLay ⟨variant, 32, cap, producers, start, A3, up.length, c3⟩))) hB4 (by decide : (1 : Nat) ≠ 0); have hex := mf_base hi4 (HCF3.out.alloc _) (HW3.out.alloc HW3.out.size _); obtain ⟨B0, hi4', hcf, hbw⟩ := hex; obtain ⟨u0, u1, u2, u3, u4, u5⟩ := blk_cells6 (hcf.below hi4'.bel hcf.lt); have HU0 := Lib.hid (Upto.new (HFT.out A3 c3) (hm A3 c3) hv4); have HI4 := Lib.hid hi4'; have HBASE := Lib.hid (And.intro hcf hbw); clear hN hb4 hp4 hB4 hO4 hl4 hi4 hi4' hcf hbw) | (go_at_call 10; refine (HOV.out _).mono ?_; rintro e w' ⟨rfl, rfl⟩))
        have hs5 := two_its HI4.out 41 (frsCs .u32 [] [{ n := N, from_ := sv }] []) (frsCs .u32 [] [{ val := sv }] [])
        obtain ⟨γ5, hs5⟩ := hs5
        have HI5 := Lib.hid hs5
        clear hs5 u0 u1 u2 u3 u4 u5
        go_loopw [11] (fun i wr => ∃ (k : Nat) (f : FrS) (γ : Nat → Nat) (b : BS), i = .int .i64 k ∧ k ≤ N ∧ Its B0 (fun _ => 0) NoId [itB 68 36 92 .u32 1 p b, itK 2 w4.heap.size 41 (frsCs .u32 [] [f] []), itK 5 (w4.heap.size + 1) 41 (frsCs .u32 [] [{ val := sv }] [])] wr γ ∧ f.n = N ∧ f.from_ = sv ∧ (k < N → f.i = k) ∧ Upto M32 b sv k ∧ b.log.length = k ∧ b.l.c.cap = cap) (fun i _ => N - (intOf i).toNat)
        case atStart => exact ⟨0, { n := N, from_ := sv }, γ5, _, rfl, by omega, HI5.out, rfl, rfl, fun _ => rfl, by have := HU0.out; rw [hsv A3 c3] at this; exact this, rfl, by show (mkLay _).c.cap = cap; rw [mkLay_c]⟩
        case round =>
          obtain ⟨k, f, γ, b, rfl, hk, hits, hfn, hff, hfi, hup, hlg, hbc⟩ := hrel
          have hwn : wrap64 ((N : Int) - 1) = (N : Int) - 1 := wrap64_id (by omega)
          by_cases hlt : k < N
          · have hlti : (k : Int) < N := by omega
            have hE := mpublish32 (bfI 41 1 2 p w4.heap.size (by decide)) wr γ wr γ b f (bfI_at hits.g0 hits.g1) hup.fit (by omega) 0 (by omega)
            rw [publish_at hup.has 0 sv hlt f hfn hff (hfi hlt)] at hE
            have HE := Lib.hid hE
            have HI := Lib.hid hits
            have HP := Lib.hid (And.intro (hup.lay (by rw [hbc]; omega) 0) (And.intro (show (b.mlay 0 (addM M32 sv k)).log.length = k + 1 by rw [hup.fit.mlay_log hup.has, hlg]) (show (b.mlay 0 (addM M32 sv k)).l.c.cap = cap by rw [hup.fit.mlay_l hup.has, hbc])))
            have HF := Lib.hid (And.intro hfn hff)
            clear hE hits hup hlg hbc hfn hff hfi
            by_cases hl : k + 1 = N
            · rw [decide_eq_true hl] at HE
              have hb1 : ((k : Int) == (N : Int) - 1) = true := by simp; omega
              go_wp2_with (go_at_call 11; refine HE.out.mono ?_; intro e w10 hq; obtain ⟨rfl, γ10, h10⟩ := HI.out.bf 0 1 (by decide) rfl rfl hq; have HI10 := Lib.hid h10; clear hq h10)
              go_round
              case rel => exact ⟨k + 1, _, γ10, _, by go_num, by omega, HI10.out, HF.out.1, HF.out.2, fun h => by omega, HP.out.1, HP.out.2.1, HP.out.2.2⟩
              case measure => simp only [intOf]; omega
            · rw [decide_eq_false hl] at HE
              have hb1 : ((k : Int) == (N : Int) - 1) = false := by simp; omega
              go_wp2_with (go_at_call 11; refine HE.out.mono ?_; intro e w10 hq; obtain ⟨rfl, γ10, h10⟩ := HI.out.bf 0 1 (by decide) rfl rfl hq; have HI10 := Lib.hid h10; clear hq h10)
              go_round
              case rel => exact ⟨k + 1, _, γ10, _, by go_num, by omega, HI10.out, HF.out.1, HF.out.2, fun h => by show (if k + 1 = N then (0 : Int) else (k : Int) + 1) = _; rw [if_neg hl]; omega, HP.out.1, HP.out.2.1, HP.out.2.2⟩
              case measure => simp only [intOf]; omega
          · obtain rfl : k = N := by omega
            have HI := Lib.hid hits
            have HP := Lib.hid (And.intro hup (And.intro hlg hbc))
            clear hits hup hlg hbc hfi
            go_wp2_with fail
            go_loopw [12] (fun i wr => ∃ (j : Nat) (g : FrS) (γ : Nat → Nat) (b : BS), i = .int .i64 j ∧ j ≤ k ∧ Its B0 (fun _ => 0) NoId [itB 68 36 92 .u32 1 p b, itK 2 w4.heap.size 41 (frsCs .u32 [] [f] []), itK 5 (w4.heap.size + 1) 41 (frsCs .u32 [] [g] [])] wr γ ∧ g.val = addM M32 sv j ∧ Upto M32 b sv k ∧ b.log.length = k + j ∧ b.l.c.cap = cap) (fun i _ => k - (intOf i).toNat)
            case atStart => exact ⟨0, { val := sv }, γ, b, rfl, by omega, HI.out, (addM_zero HSI.out).symm, HP.out.1, HP.out.2.1, HP.out.2.2⟩
            case round =>
              obtain ⟨j, g, γ2, b2, rfl, hj, hits, hgv, hup, hlg, hbc⟩ := hrel
              by_cases hjt : j < k
              · have hjti : (j : Int) < k := by omega
                have hE := mseek32 (bfI 41 1 5 p (w4.heap.size + 1) (by decide)) wr γ2 wr γ2 b2 g (bfI_at hits.g0 hits.g2) hup.fit (by omega) 1 (by rw [hgv]; exact addM_in32 _ _)
                obtain ⟨hk1, hk2, hk3⟩ := mlook_marked hup.fit hup.has 1 g.val
                have hse : seekP M32 b2 1 g = (false, (b2.mlook 1 g.val).2, { g with val := addM M32 g.val 1 }) := by
                  unfold seekP
                  rw [if_neg (by simp [hup.has]), if_pos (by rw [hk1, hgv]; exact hup.yes j hjt)]
                rw [hse] at hE
                dsimp only at hE
                have HI2 := Lib.hid hits
                have HP2 := Lib.hid (And.intro (hup.look 1 g.val) (And.intro (show (b2.mlook 1 g.val).2.log.length = k + (j + 1) by rw [hk3, hlg]; omega) (And.intro (show (b2.mlook 1 g.val).2.l.c.cap = cap by rw [mlook_l, hbc]) (show addM M32 g.val 1 = addM M32 sv ((j + 1 : Nat) : Int) by rw [hgv, addM_next]))))
                clear hse hk1 hk2 hk3 hits hup hlg hbc hgv
                generalize (b2.mlook 1 g.val).2 = b3 at *
                generalize addM M32 g.val 1 = gv at *
                have HE := Lib.hid hE
                clear hE
                go_wp2_with (go_at_call 12; refine HE.out.mono ?_; intro e w10 hq; obtain ⟨rfl, γ10, h10⟩ := HI2.out.bf 0 2 (by decide) rfl rfl hq; have HI10 := Lib.hid h10; clear hq h10)
                go_roundw
                case rel => exact ⟨j + 1, _, γ10, b3, by go_num, by omega, HI10.out, HP2.out.2.2.2, HP2.out.1, HP2.out.2.1, HP2.out.2.2.1⟩
                case measure => simp only [intOf]; omega
              · obtain rfl : j = k := by omega
                have hnot : b2.marked (addM M32 sv j) = false := by
                  by_cases hjc : (j : Int) < cap
                  · exact hup.no j (Nat.le_refl _) (by rw [hbc]; exact hjc)
                  · exact hup.next (by rw [hbc]; omega) (by omega)
                obtain ⟨hk1, hk2, hk3⟩ := mlook_marked hup.fit hup.has 1 g.val
                have hse : seekP M32 b2 1 g = (true, (b2.mlook 1 g.val).2, g) := by
                  unfold seekP
                  rw [if_neg (by simp [hup.has]), if_neg (by rw [hk1, hgv, hnot]; decide)]
                have hln : (((b2.mlook 1 g.val).2.log.length : Nat) : Int) = 2 * j + 1 := by rw [hk3, hlg]; omega
                generalize (b2.mlook 1 g.val).2 = b3 at *
                have HSK := Lib.hid (show ∀ W γ', Its B0 (fun _ => 0) NoId [itB 68 36 92 .u32 1 p b2, itK 2 w4.heap.size 41 (frsCs .u32 [] [f] []), itK 5 (w4.heap.size + 1) 41 (frsCs .u32 [] [g] [])] W γ' → Calls Try.prog 12 #[.pointer (some ⟨p, 0, none⟩), .int .i64 1, .pointer (some ⟨w4.heap.size + 1, 0, none⟩)] W (BFEnd 68 36 92 .u32 (bfI 41 1 5 p (w4.heap.size + 1) (by decide)) W γ' (.bool true) b3 g) by
                  intro W γ' h
                  have hq := mseek32 (bfI 41 1 5 p (w4.heap.size + 1) (by decide)) W γ' W γ' b2 g (bfI_at h.g0 h.g2) hup.fit (by omega) 1 (by rw [hgv]; exact addM_in32 _ _)
                  rw [hse] at hq
                  exact hq)
                have HMK := Lib.hid (show ∀ W γ', Its B0 (fun _ => 0) NoId [itB 68 36 92 .u32 1 p b2, itK 2 w4.heap.size 41 (frsCs .u32 [] [f] []), itK 5 (w4.heap.size + 1) 41 (frsCs .u32 [] [g] [])] W γ' → Calls Try.prog 13 #[.pointer (some ⟨p, 0, none⟩), .int .u32 (addM M32 sv j)] W fun e w' => e = .returned (.bool false) ∧ Below W.heap.size W w' by
                  intro W γ' h
                  have hq := mmarked32 W γ' 1 p b2 h.g0 hup.fit (addM M32 sv j) (addM_in32 _ _)
                  rw [hnot] at hq
                  exact hq)
                have HLE := Lib.hid (show ∀ W γ', Its B0 (fun _ => 0) NoId [itB 68 36 92 .u32 1 p b3, itK 2 w4.heap.size 41 (frsCs .u32 [] [f] []), itK 5 (w4.heap.size + 1) 41 (frsCs .u32 [] [g] [])] W γ' → Calls Try.prog 16 #[.pointer (some ⟨p, 0, none⟩)] W fun e w' => e = .returned (.int .i64 (2 * j + 1)) ∧ W = w' by
                  intro W γ' h
                  have hq := bLen32 W γ' 1 p b3 h.g0
                  rw [hln] at hq
                  exact hq)
                have hcc : wr.cell? ⟨w0.heap.size, 2, none⟩ = some (.int .i64 cap) := (HBASE.out.1.below hits.bel HBASE.out.1.lt).cell 2
                have hdf := dif_add (n := j) HSI.out hN64
                have HG := Lib.hid hgv
                have hm2 : wrap64 (2 * (j : Int)) = 2 * (j : Int) := wrap64_id (by omega)
                have hm3 : wrap64 (2 * (j : Int) + 1) = 2 * (j : Int) + 1 := wrap64_id (by omega)
                have HI2 := Lib.hid hits
                clear hse hk1 hk2 hk3 hits hup hlg hbc hnot hln hgv
                by_cases hjc : (j : Int) = cap
                · exact absurd hjc HQ.out
                · have hjb : ((j : Int) == cap) = false := by simp [hjc]
                  go_wp2_with (first
                    | (go_at_call 12; refine (HSK.out _ _ HI2.out).mono ?_; intro e w11 hq; obtain ⟨rfl, γ11, h11⟩ := HI2.out.bf 0 2 (by decide) rfl rfl hq; have g8 : w11.cell? ⟨w4.heap.size + 1, 8, none⟩ = some (.int .u32 g.val) := h11.g2.1.cell 8; have HI11 := Lib.hid h11; clear hq h11)
                    | (go_at_call 15; refine (diff32 _ _ _).mono ?_; rintro e w' ⟨rfl, rfl⟩; rw [HG.out, hdf])
                    | (go_at_call 16; refine (HLE.out _ _ HI11.out).mono ?_; rintro e w' ⟨rfl, rfl⟩)
                    | (go_at_call 7; refine (HV.out _).mono ?_; rintro e w9 ⟨rfl, hb9⟩; have HB9 := Lib.hid hb9; clear hb9))
                  go_ret
                  refine ⟨rfl, ?_⟩
                  exact HBASE.out.2.trans ((HI11.out.bel.trans (HB9.out.mono HI11.out.bel.size)).mono HBASE.out.2.size)
      · have hwb : (c.width != 32) = true := by simp [hwid]
        obtain ⟨variant, width, cap, producers, start, ua, un, uc⟩ := c
        unfold Cf.vs at *
        dsimp only at *
        subst hun
        have HLO := Lib.hid hlo
        have HRI := Lib.hid hri
        clear hlo hri hU hll hlen hll6 hlen6 hs hsb hst hc hok hwid
        go_enter Try.func3, Try.ntmps3
        go_wp2_with (first | (go_at_call 5; refine (HLO.out _ (by (repeat (with_reducible first | exact Below.refl _ _ | refine Below.drew ?_ | refine below_drewN ?_ _ | refine Below.setCell ?_ ?_ _ | refine Below.alloc ?_ ?_ _)); all_goals first | omega | (dsimp only; omega) | (simp; omega))).mono ?_; rintro e w' ⟨rfl, rfl⟩) | (go_at_call 6; refine (HRI.out _ (by (repeat (with_reducible first | exact Below.refl _ _ | refine Below.drew ?_ | refine below_drewN ?_ _ | refine Below.setCell ?_ ?_ _ | refine Below.alloc ?_ ?_ _)); all_goals first | omega | (dsimp only; omega) | (simp; omega))).mono ?_; rintro e w2 ⟨rfl, hb2⟩; obtain ⟨hc2, hf2⟩ := bcell hb2; have hz2 := hb2.size; have HCF2 := Lib.hid ((Blk.new w0 25 _).below hb2 (by simp)); have HB2 := Lib.hid hb2; clear hb2) | (go_at_call 7; refine (HV.out _).mono ?_; rintro e w9 ⟨rfl, hb9⟩; have HB9 := Lib.hid hb9; clear hb9))
        go_ret
        exact ⟨rfl, below_new (HB2.out.trans (HB9.out.mono HB2.out.size))⟩
    · simp only [show (confCode c up == 0) = false by simp [hc]] at hri
      obtain ⟨variant, width, cap, producers, start, ua, un, uc⟩ := c
      unfold Cf.vs at *
      dsimp only at *
      subst hun
      have HLO := Lib.hid hlo
      have HRI := Lib.hid hri
      clear hlo hri hU hll hlen hll6 hlen6 hs hsb hst hc
      go_enter Try.func3, Try.ntmps3
      go_wp2_with (first | (go_at_call 5; refine (HLO.out _ (by (repeat (with_reducible first | exact Below.refl _ _ | refine Below.drew ?_ | refine below_drewN ?_ _ | refine Below.setCell ?_ ?_ _ | refine Below.alloc ?_ ?_ _)); all_goals first | omega | (dsimp only; omega) | (simp; omega))).mono ?_; rintro e w' ⟨rfl, rfl⟩) | (go_at_call 6; refine (HRI.out _ (by (repeat (with_reducible first | exact Below.refl _ _ | refine Below.drew ?_ | refine below_drewN ?_ _ | refine Below.setCell ?_ ?_ _ | refine Below.alloc ?_ ?_ _)); all_goals first | omega | (dsimp only; omega) | (simp; omega))).mono ?_; rintro e w2 ⟨rfl, hb2⟩; obtain ⟨hc2, hf2⟩ := bcell hb2; have hz2 := hb2.size; have HCF2 := Lib.hid ((Blk.new w0 25 _).below hb2 (by simp)); have HB2 := Lib.hid hb2; clear hb2) | (go_at_call 7; refine (HV.out _).mono ?_; rintro e w9 ⟨rfl, hb9⟩; have HB9 := Lib.hid hb9; clear hb9))
      go_ret
      exact ⟨rfl, below_new (HB2.out.trans (HB9.out.mono HB2.out.size))⟩
  · simp only [show (!decide (ShortUp up)) = true by simp [hs]] at hlo
    obtain ⟨variant, width, cap, producers, start, ua, un, uc⟩ := c
    unfold Cf.vs at *
    dsimp only at *
    subst hun
    have HLO := Lib.hid hlo
    clear hlo hU hll hlen hs hst
    go_enter Try.func3, Try.ntmps3
    go_wp2_with (first | (go_at_call 5; refine (HLO.out _ (by (repeat (with_reducible first | exact Below.refl _ _ | refine Below.drew ?_ | refine below_drewN ?_ _ | refine Below.setCell ?_ ?_ _ | refine Below.alloc ?_ ?_ _)); all_goals first | omega | (dsimp only; omega) | (simp; omega))).mono ?_; rintro e w' ⟨rfl, rfl⟩) | (go_at_call 7; refine (HV.out _).mono ?_; rintro e w9 ⟨rfl, hb9⟩; have HB9 := Lib.hid hb9; clear hb9))
    go_ret
    exact ⟨rfl, below_new HB9.out⟩
set_option maxRecDepth 100000 in
theorem markFinds_any (c : Cf) (up : List (List Int)) (hun : c.un = up.length) (hU : UpAt w0 (fun b => b < w0.heap.size) c.ua up) (hlen : up.length ≤ maxLen) (hll : ∀ l ∈ up, l.length ≤ maxLen) (hst : 0 ≤ c.start ∧ c.start ≤ 18446744073709551615) (n : Int) :
    Calls Try.prog 3 #[.agg c.vs.toArray, .int .i64 n] w0 fun e w' => e = .returned (.bool true) ∧ Below w0.heap.size w0 w' := by
  by_cases h : n = c.cap
  · exact markFinds_eq w0 c up hun hU hlen hll hst n h
  · exact markFinds_ne w0 c up hun hU hlen hll hst n h
end
end Go.Proofs.Ythnmpndofkgppaa
