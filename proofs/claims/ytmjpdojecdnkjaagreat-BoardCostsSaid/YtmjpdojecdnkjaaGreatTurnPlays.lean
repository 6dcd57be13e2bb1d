/- sakialaw18.played returns true: both boards are turned alike. -/
import Derived.Test.YtmjpdojecdnkjaaGreatTurnW
import Derived.Test.YtmjpdojecdnkjaaGreatTurnAlone2
import Derived.Test.YtmjpdojecdnkjaaGreatLive18
namespace Go.Proofs.YtmjpdojecdnkjaaGreat
open Go.RowKit
set_option linter.unusedVariables false
set_option linter.unusedSimpArgs false
set_option maxHeartbeats 4000000

theorem wpList_store_made2 {P : Program} {ops : Array Oper} {rest : List Oper} {o : Oper} {a : Act} {w : World} {Q : Exit → Act → World → Prop} (hgd : o.guard = none) (ty : TypeId) (x y : Operand) (ho : o.op = .store ty x y)
    (g : Nat) (w1 : World) (old cells cells' : Array Value) (hx : a.eval x = .pointer (some ⟨g, 0, none⟩)) (hy : a.eval y = .agg cells) (hw : w = w1.alloc (.cells old ty)) (hg : g = w1.heap.size) (hc : cells = cells') (hi : (P.info? ty).map (·.size) = some cells.size)
    (hold : old.size = cells.size) (h1 : cells.all (·.oneCell') = true)
    (h : wpList P ops Q rest (a.put o.dst undef) (w1.alloc (.cells cells' ty))) : wpList P ops Q (o :: rest) a w := by
  subst hg
  exact wpList_store_made hgd ty x y ho w1 old cells cells' hx hy hw hc hi hold h1 h
theorem below_chain {a w w' : World} (h1 : Below a.heap.size a w) (h2 : Below w.heap.size w w') : Below a.heap.size a w' := h1.trans (h2.mono h1.size)
theorem pp5 {tB tW tA : TypeId} {kd : IntKind} {w0 w4 W w5 : World} {γ4 : Nat → Nat} {p q : Nat} {c : Cf} {b : BS} (hO : Old w0 w4 γ4) (hB : BoardAt tB tW tA kd w4 γ4 1 p b) (hbw : Below w4.heap.size w4 W) (hRR : ∀ γ id, RefAt w5 (Lab W γ id) id q c b ∧ Fr NoId γ (Lab W γ id) W w5) :
    ∃ γ5, Old w0 w5 γ5 ∧ BoardAt tB tW tA kd w5 γ5 1 p b ∧ RefAt w5 γ5 4 q c b := by
  have hfr := Fr.trans (Fr.of_below hbw NoId γ4) (hRR γ4 4).2
  exact ⟨_, hO.fr hfr (fun h => h), hB.fr hfr (fun h => h), (hRR γ4 4).1⟩
theorem pp6 {tB tW tA : TypeId} {kd : IntKind} {w0 w5 W w6 : World} {γ5 : Nat → Nat} {p q : Nat} {c : Cf} {b : BS} (h : Old w0 w5 γ5 ∧ BoardAt tB tW tA kd w5 γ5 1 p b ∧ RefAt w5 γ5 4 q c b) (hbw : Below w5.heap.size w5 W) (hb6 : Below W.heap.size W w6) :
    Old w0 w6 γ5 ∧ BoardAt tB tW tA kd w6 γ5 1 p b ∧ RefAt w6 γ5 4 q c b := by
  have hfr := Fr.of_below (hbw.trans (hb6.mono hbw.size)) NoId γ5
  exact ⟨h.1.fr hfr (fun h => h), h.2.1.fr hfr (fun h => h), h.2.2.fr hfr (fun h => h)⟩
set_option maxRecDepth 100000 in
theorem played18_32 (c : Cf) (up : List (List Int)) (hun : c.un = up.length) (hok : CfOk c up) (hll6 : ∀ l ∈ up, l.length ≤ 1000000) (hst : 0 ≤ c.start ∧ c.start ≤ 18446744073709551615) (hwid : c.width = 32) (xs : List Int) (hx : ∀ x ∈ xs, 0 ≤ x ∧ x < 256) (hxl : xs.length ≤ 300) (A : Option Addr) (xc : Nat) (w0 : World)
    (hU : UpAt w0 (fun b => b < w0.heap.size) c.ua up) (hA : KAt .u8 w0 (fun b => b < w0.heap.size) A xs) :
    Calls Tryz.prog 9 #[.agg c.vs.toArray, .slice A xs.length xc] w0 fun e w' => e = .returned (.bool true) ∧ Below w0.heap.size w0 w' := by
  obtain ⟨variant, width, cap, producers, start, ua, un, uc⟩ := c
  unfold Cf.vs at *
  dsimp only at *
  subst hwid
  have hvar := hok.variant
  have hcap := hok.cap
  have HOF := Lib.hid (fun W (hW : Below w0.heap.size w0 W) => layof (fun b => b < w0.heap.size) ⟨variant, 32, cap, producers, start, ua, un, uc⟩ up hun hok hll6 W (fun b hb => Nat.lt_of_lt_of_le hb hW.size) (hU.below hW (fun b hb => hb)))
  have HNW := Lib.hid (fun (Bk : Nat → Prop) ua uc W hB hU => bnew32 Bk ⟨variant, 32, cap, producers, start, ua, un, uc⟩ up hun (hok.ua ua uc) rfl hst hll6 W hB hU)
  have HFT := Lib.hid (fun ua uc => newBS_fit ⟨variant, 32, cap, producers, start, ua, un, uc⟩ (hok.ua ua uc) hun)
  have HRN := Lib.hid (fun W => rnew12 ⟨variant, 32, cap, producers, start, ua, un, uc⟩ hok hun hst W)
  have HVC := Lib.hid (And.intro hvar hcap)
  unfold Cf.vs at HOF HRN
  unfold Lay.vs at HNW
  dsimp only at HOF HRN HNW HFT HVC
  subst hun
  obtain ⟨d, hd⟩ : ∃ d : Bool, ∀ ua uc, decide ((newBS (mkLay ⟨variant, 32, cap, producers, start, ua, up.length, uc⟩)).l.c.variant = 5) = d := ⟨decide (variant = 5), fun ua uc => by show decide ((mkLay _).c.variant = 5) = _; rw [mkLay_c]⟩
  have hdd : (d != d) = false := by cases d <;> rfl
  have HAX := Lib.hid (And.intro hA hx)
  clear hU hll6 hst hok hA hx hvar hcap
  go_enter Tryz.func9, Tryz.ntmps9
  go_wp2_with (first
    | (go_at_call 12; have hW1 := ((Below.refl w0.heap.size w0).alloc (Nat.le_refl _) (Obj.cells #[.int .i64 variant, .int .i64 32, .int .i64 cap, .int .i64 producers, .int .u64 start, .slice ua up.length uc] 25)); have hq := HOF.out _ hW1; refine hq.mono ?_; clear hq; rintro e w3 ⟨A3, c3, rfl, hcl3, hU3, hb3⟩; unfold Lay.vs; obtain ⟨hc3, hf3⟩ := bcell hb3; have HU3 := Lib.hid hU3; have HB3 := Lib.hid hb3; have hz3 : w0.heap.size < w3.heap.size := Nat.lt_of_lt_of_le (by simp) hb3.size; have hy3 : w0.heap.size < w3.heap.size + 1 := Nat.lt_succ_of_lt hz3; have HW3 := Lib.hid (hW1.trans (hb3.mono hW1.size)); clear hU3 hb3 hcl3 hW1))
  go_region_held3 (fun w' => w'.cell? ⟨w0.heap.size, 0, none⟩ = some (.int .i64 variant) ∧ w'.cell? ⟨w0.heap.size, 1, none⟩ = some (.int .i64 32) ∧ w'.cell? ⟨w0.heap.size, 2, none⟩ = some (.int .i64 cap) ∧ w'.cell? ⟨w0.heap.size, 3, none⟩ = some (.int .i64 producers) ∧ w'.cell? ⟨w0.heap.size, 4, none⟩ = some (.int .u64 start) ∧ w'.cell? ⟨w0.heap.size, 5, none⟩ = some (.slice ua up.length uc)
      ∧ w'.cell? ⟨w3.heap.size, 0, none⟩ = some (.int .i64 (mkLay ⟨variant, 32, cap, producers, start, A3, up.length, c3⟩).c.variant) ∧ w'.cell? ⟨w3.heap.size, 1, none⟩ = some (.int .i64 (mkLay ⟨variant, 32, cap, producers, start, A3, up.length, c3⟩).c.width) ∧ w'.cell? ⟨w3.heap.size, 2, none⟩ = some (.int .i64 (mkLay ⟨variant, 32, cap, producers, start, A3, up.length, c3⟩).c.cap) ∧ w'.cell? ⟨w3.heap.size, 3, none⟩ = some (.int .i64 (mkLay ⟨variant, 32, cap, producers, start, A3, up.length, c3⟩).c.producers) ∧ w'.cell? ⟨w3.heap.size, 4, none⟩ = some (.int .u64 (mkLay ⟨variant, 32, cap, producers, start, A3, up.length, c3⟩).c.start) ∧ w'.cell? ⟨w3.heap.size, 5, none⟩ = some (.slice (mkLay ⟨variant, 32, cap, producers, start, A3, up.length, c3⟩).c.ua (mkLay ⟨variant, 32, cap, producers, start, A3, up.length, c3⟩).c.un (mkLay ⟨variant, 32, cap, producers, start, A3, up.length, c3⟩).c.uc) ∧ w'.cell? ⟨w3.heap.size, 6, none⟩ = some (.int .i64 (mkLay ⟨variant, 32, cap, producers, start, A3, up.length, c3⟩).cursor) ∧ w'.cell? ⟨w3.heap.size, 7, none⟩ = some (.int .i64 (mkLay ⟨variant, 32, cap, producers, start, A3, up.length, c3⟩).claim) ∧ w'.cell? ⟨w3.heap.size, 8, none⟩ = some (.int .i64 (mkLay ⟨variant, 32, cap, producers, start, A3, up.length, c3⟩).ticket) ∧ w'.cell? ⟨w3.heap.size, 9, none⟩ = some (.int .i64 (mkLay ⟨variant, 32, cap, producers, start, A3, up.length, c3⟩).serving) ∧ w'.cell? ⟨w3.heap.size, 10, none⟩ = some (.int .i64 (mkLay ⟨variant, 32, cap, producers, start, A3, up.length, c3⟩).next) ∧ w'.cell? ⟨w3.heap.size, 11, none⟩ = some (.int .i64 (mkLay ⟨variant, 32, cap, producers, start, A3, up.length, c3⟩).marks) ∧ w'.cell? ⟨w3.heap.size, 12, none⟩ = some (.int .i64 (mkLay ⟨variant, 32, cap, producers, start, A3, up.length, c3⟩).slots) ∧ w'.cell? ⟨w3.heap.size, 13, none⟩ = some (.int .i64 (mkLay ⟨variant, 32, cap, producers, start, A3, up.length, c3⟩).cells)) (go_keep)
    (first | (go_at_call 29; refine (HNW.out _ A3 c3 _ (by intro b hb; have := hb.2; simp; omega) (HU3.out.below (B := w3.heap.size) (by (repeat (with_reducible first | exact Below.refl _ _ | refine Below.drew ?_ | refine below_drewN ?_ _ | refine Below.setCell ?_ ?_ _ | refine Below.alloc ?_ ?_ _)); all_goals first | omega | (dsimp only; omega) | (simp; omega)) (fun b hb => hb.2))).mono ?_; intro e w4 hN; obtain ⟨p, γ4, rfl, hb4, hp4, hB4, hO4, hl4⟩ := new_old 110 (w0 := w0) (by (repeat (with_reducible first | exact HW3.out | refine Below.drew ?_ | refine below_drewN ?_ _ | refine Below.alloc ?_ ?_ _)); all_goals first | exact HW3.out.size | (have := HW3.out.size; simp; omega)) hN; obtain ⟨hc4, hf4⟩ := bcell hb4; have hz4 : w3.heap.size < w4.heap.size := Nat.lt_of_lt_of_le (by simp) hb4.size; have hy4 : w0.heap.size < w4.heap.size := Nat.lt_trans hz3 hz4; have HB4 := Lib.hid hb4; have HN4 := Lib.hid (And.intro hB4 (And.intro hO4 hp4)); clear hN hb4 hp4 hB4 hO4 hl4) | (go_at_call 14; refine (HRN.out _).mono ?_; intro e w5 hN; obtain ⟨q, rfl, hb5, _, hRR⟩ := refNew_at (c1 := ⟨variant, 32, cap, producers, start, A3, up.length, c3⟩) HVC.out.1 HVC.out.2 rfl hN; obtain ⟨hc5, hf5⟩ := bcell hb5; have hz5 : w4.heap.size ≤ w5.heap.size := Nat.le_trans (by simp) hb5.size; have hp5 := pp5 HN4.out.2.1 HN4.out.1 (by (repeat (with_reducible first | exact Below.refl _ _ | refine Below.drew ?_ | refine below_drewN ?_ _ | refine Below.setCell ?_ ?_ _ | refine Below.alloc ?_ ?_ _)); all_goals first | omega | (dsimp only; omega) | (simp; omega)) hRR; obtain ⟨γ5, hq5⟩ := hp5; have HP5 := Lib.hid hq5; clear hN hb5 hRR hq5))
  have hi44 : (Tryz.prog.info? 73).map (·.size) = some 44 := by kernel_rfl
  have hj44 : (Tryz.prog.info? 76).map (·.size) = some 44 := by kernel_rfl
  go_wp2_with (first
    | (refine wpList_store_made2 (by rfl) 73 (.tmp 9) (.tmp 35) (by rfl) _ _ _ _ (frsCs .u32 [] (List.replicate 4 {}) []) (by rfl) (by rfl) (by rfl) (by simp) (by rfl) (by exact hi44) (by rfl) (by kernel_rfl) ?_)
    | (refine wpList_store_made2 (by rfl) 76 (.tmp 10) (.tmp 36) (by rfl) _ _ _ _ (frsCs .u64 [] (List.replicate 4 {}) []) (by rfl) (by rfl) (by rfl) (by simp) (by rfl) (by exact hj44) (by rfl) (by kernel_rfl) ?_)
    | (go_at_call 31; refine (r18Has _ γ5 4 q _ _ (HP6.out.2.2.below (by (repeat (with_reducible first | exact Below.refl _ _ | refine Below.drew ?_ | refine below_drewN ?_ _ | refine Below.setCell ?_ ?_ _ | refine Below.alloc ?_ ?_ _)); all_goals first | omega | (dsimp only; omega) | (simp; omega)))).mono ?_; rintro e w' ⟨he, hw⟩; rw [hd] at he; subst he hw; have hs7 := pw_start32 HP6.out.1 HP6.out.2.1 HP6.out.2.2 (HFT.out A3 c3) (by first | exact .inl rfl | exact .inr rfl) (by rfl) (by rfl); obtain ⟨γ7, hS7⟩ := hs7; have HS := Lib.hid hS7; clear hS7) | (go_at_call 30; refine (tHas32 _ γ5 1 p _ (HP5.out.2.1.below (by (repeat (with_reducible first | exact Below.refl _ _ | refine Below.drew ?_ | refine below_drewN ?_ _ | refine Below.setCell ?_ ?_ _ | refine Below.alloc ?_ ?_ _)); all_goals first | omega | (dsimp only; omega) | (simp; omega)))).mono ?_; rintro e w6 ⟨he, hb6⟩; rw [hd] at he; subst he; have HP6 := Lib.hid (pp6 HP5.out (by (repeat (with_reducible first | exact Below.refl _ _ | refine Below.drew ?_ | refine below_drewN ?_ _ | refine Below.setCell ?_ ?_ _ | refine Below.alloc ?_ ?_ _)); all_goals first | omega | (dsimp only; omega) | (simp; omega)) hb6); clear hb6))
  try clear HOF HNW HFT HRN HVC hd hdd hi44 hj44 hc3 hf3 hz3 hy3 hc4 hf4 hz4 hy4 hc5 hf5 hz5 HP5 HP6 HN4 HB4 HB3 HU3 HW3
  go_loopw [12] (fun i wr => ∃ (k : Nat) (fs : List FrS) (ins : List Bool) (γ : Nat → Nat) (b : BS), i = .int .i64 k ∧ k ≤ xs.length ∧ fs.length = 4 ∧ ins.length = 4 ∧ PW 134 31 110 73 76 77 .u32 M32 ⟨⟨variant, 32, cap, producers, start, ua, up.length, uc⟩, w0, p, q, w6.heap.size, w6.heap.size + 1, w6.heap.size + 1 + 1⟩ wr γ b b fs fs ins (2 * k)) (fun i _ => xs.length - (intOf i).toNat)
  case atStart => exact ⟨0, _, _, _, _, rfl, by omega, rfl, rfl, HS.out⟩
  case round =>
    obtain ⟨k, fs, ins, γ, b, rfl, hk, hnf, hni, hpw⟩ := hrel
    by_cases hlt : k < xs.length
    · have hkx : (k : Int) < xs.length := by omega
      have hgx := List.getElem?_eq_getElem hlt
      have hxb := HAX.out.2 _ (List.getElem_mem hlt)
      generalize xs[k] = x at hgx hxb
      obtain ⟨ab, ao, rfl, hab, hac⟩ := HAX.out.1 k x hgx
      obtain ⟨t, ht4, htx⟩ : ∃ t : Nat, t < 4 ∧ x % 4 = t := ⟨(x % 4).toNat, by omega, by omega⟩
      have hac2 := (hpw.old.bel.cell (p := ⟨ab, ao + k, none⟩) hab).trans hac
      obtain ⟨f, hf⟩ := get_some hnf ht4
      obtain ⟨v, hv⟩ := get_some hni ht4
      have hgc : wr.cell? ⟨w6.heap.size + 1 + 1, t, none⟩ = some (.bool v) := (hpw.i.cell t).trans (by simp [hv])
      have hgz := hpw.i.frozen t
      have hk3 : k ≤ 300 := by omega
      have hti : (t : Int) < 4 := by omega
      have HPW := Lib.hid hpw
      clear hpw hac hab hgx
      obtain ⟨op, n, phase, pc, i, j, from_, min, val, own, da, dn, dc⟩ := f
      cases v
      · have hE := pw_enter32 HPW.out (by omega) t _ hf
        have hR := fun w3 γ3 b3 fs3 (h3 : PW 134 31 110 73 76 77 .u32 M32 ⟨⟨variant, 32, cap, producers, start, ua, up.length, uc⟩, w0, p, q, w6.heap.size, w6.heap.size + 1, w6.heap.size + 1 + 1⟩ w3 γ3 b3 b fs3 fs ins (2 * k + 1)) => pw_renter32 h3 (by omega) (t : Int) ⟨op, n, phase, pc, i, j, from_, min, val, own, da, dn, dc⟩
        have hfit := HPW.out.fb.enter_own (t : Int) pc (HPW.out.own t _ hf)
        dsimp only at hE hR hfit
        generalize hr : enterP M32 b t pc own = r at hE hR hfit
        obtain ⟨d', b', pc', ow'⟩ := r
        unfold FrS.vs at hR
        dsimp only at hE hR hfit
        have HE := Lib.hid hE
        have HR := Lib.hid hR
        have hm1 : ow' % 18446744073709551616 = ow' := by unfold InM M32 at hfit; omega
        have hm2 : IntKind.u64.wrap ow' = ow' := by simp [IntKind.wrap, IntKind.bits, IntKind.signed]; omega
        have HFI := Lib.hid hfit
        clear hE hR hr hfit
        go_wp2_with (first | (go_at_call 26; refine HE.out.mono ?_; rintro e w10 ⟨rfl, γ10, h10⟩; have e0 : w10.cell? ⟨w6.heap.size + 1, t * 11, none⟩ = some (.int .i64 op) := h10.gcell hf 0 (by omega); have e1 : w10.cell? ⟨w6.heap.size + 1, t * 11 + 1, none⟩ = some (.int .i64 n) := h10.gcell hf 1 (by omega); have e2 : w10.cell? ⟨w6.heap.size + 1, t * 11 + 2, none⟩ = some (.int .i64 phase) := h10.gcell hf 2 (by omega); have e3 : w10.cell? ⟨w6.heap.size + 1, t * 11 + 3, none⟩ = some (.int .i64 pc) := h10.gcell hf 3 (by omega); have e4 : w10.cell? ⟨w6.heap.size + 1, t * 11 + 4, none⟩ = some (.int .i64 i) := h10.gcell hf 4 (by omega); have e5 : w10.cell? ⟨w6.heap.size + 1, t * 11 + 5, none⟩ = some (.int .i64 j) := h10.gcell hf 5 (by omega); have e6 : w10.cell? ⟨w6.heap.size + 1, t * 11 + 6, none⟩ = some (.int .u64 from_) := h10.gcell hf 6 (by omega); have e7 : w10.cell? ⟨w6.heap.size + 1, t * 11 + 7, none⟩ = some (.int .u64 min) := h10.gcell hf 7 (by omega); have e8 : w10.cell? ⟨w6.heap.size + 1, t * 11 + 8, none⟩ = some (.int .u64 val) := h10.gcell hf 8 (by omega); have e9 : w10.cell? ⟨w6.heap.size + 1, t * 11 + 9, none⟩ = some (.int .u64 own) := h10.gcell hf 9 (by omega); have e10 : w10.cell? ⟨w6.heap.size + 1, t * 11 + 10, none⟩ = some (.slice da dn dc) := h10.gcell hf 10 (by omega); have HP10 := Lib.hid h10; clear h10) | (go_at_call 33; refine (HR.out _ _ _ _ HP10.out).mono ?_; rintro e w11 ⟨rfl, γ11, h11⟩; have g0 : w11.cell? ⟨w6.heap.size + 1, t * 11, none⟩ = some (.int .i64 op) := h11.gcell hf 0 (by omega); have g1 : w11.cell? ⟨w6.heap.size + 1, t * 11 + 1, none⟩ = some (.int .i64 n) := h11.gcell hf 1 (by omega); have g2 : w11.cell? ⟨w6.heap.size + 1, t * 11 + 2, none⟩ = some (.int .i64 phase) := h11.gcell hf 2 (by omega); have g3 : w11.cell? ⟨w6.heap.size + 1, t * 11 + 3, none⟩ = some (.int .i64 pc) := h11.gcell hf 3 (by omega); have g4 : w11.cell? ⟨w6.heap.size + 1, t * 11 + 4, none⟩ = some (.int .i64 i) := h11.gcell hf 4 (by omega); have g5 : w11.cell? ⟨w6.heap.size + 1, t * 11 + 5, none⟩ = some (.int .i64 j) := h11.gcell hf 5 (by omega); have g6 : w11.cell? ⟨w6.heap.size + 1, t * 11 + 6, none⟩ = some (.int .u64 from_) := h11.gcell hf 6 (by omega); have g7 : w11.cell? ⟨w6.heap.size + 1, t * 11 + 7, none⟩ = some (.int .u64 min) := h11.gcell hf 7 (by omega); have g8 : w11.cell? ⟨w6.heap.size + 1, t * 11 + 8, none⟩ = some (.int .u64 val) := h11.gcell hf 8 (by omega); have g9 : w11.cell? ⟨w6.heap.size + 1, t * 11 + 9, none⟩ = some (.int .u64 own) := h11.gcell hf 9 (by omega); have g10 : w11.cell? ⟨w6.heap.size + 1, t * 11 + 10, none⟩ = some (.slice da dn dc) := h11.gcell hf 10 (by omega); have f3 : w11.cell? ⟨w6.heap.size, t * 11 + 3, none⟩ = some (.int .i64 pc') := h11.fcell (List.getElem?_set_self (List.getElem?_eq_some_iff.1 hf).1) 3 (by omega); have f9 : w11.cell? ⟨w6.heap.size, t * 11 + 9, none⟩ = some (.int .u32 ow') := h11.fcell (List.getElem?_set_self (List.getElem?_eq_some_iff.1 hf).1) 9 (by omega); have hzg := h11.g.frozen; have hF11 : w6.heap.size < w11.heap.size := h11.f.lt; have hG11 : w6.heap.size + 1 < w11.heap.size := h11.g.lt; have hI11 : w6.heap.size + 1 + 1 < w11.heap.size := h11.i.lt; have i11 : w11.cell? ⟨w6.heap.size + 1 + 1, t, none⟩ = some (.bool false) := (h11.i.cell t).trans (by simp [hv]); have iz11 := h11.i.frozen t; have HP11 := Lib.hid h11; clear h11))
        have hpg := HP11.out.putG hf ⟨op, n, phase, pc', i, j, from_, min, val, ow', da, dn, dc⟩
        dsimp only at hpg
        have HPG := Lib.hid hpg
        clear hpg
        go_quiet (fail)
        have HP13 := Lib.hid (((HPG.out.alloc (Obj.cells #[.int .i64 op, .int .i64 n, .int .i64 phase, .int .i64 pc', .int .i64 i, .int .i64 j, .int .u64 from_, .int .u64 min, .int .u64 val, .int .u64 ow', .slice da dn dc] 75)).drewN nq).setI t d')
        go_wp2_with (first | (go_at_call 27; refine (pw_wait32 HP13.out).mono ?_; rintro e w14 ⟨rfl, h14⟩; have HP14 := Lib.hid h14; clear h14) | (go_at_call 34; refine (pw_rwait32 HP14.out).mono ?_; rintro e w15 ⟨rfl, h15⟩; have HP15 := Lib.hid h15; clear h15))
        go_round
        case rel => exact ⟨k + 1, _, _, _, _, by go_num, by omega, by simp [hnf], by simp [hni], HP15.out⟩
        case measure => simp only [intOf]; omega
      · have hE := pw_leave32 HPW.out (by omega) t
        have hR := fun w3 γ3 b3 (h3 : PW 134 31 110 73 76 77 .u32 M32 ⟨⟨variant, 32, cap, producers, start, ua, up.length, uc⟩, w0, p, q, w6.heap.size, w6.heap.size + 1, w6.heap.size + 1 + 1⟩ w3 γ3 b3 b fs fs ins (2 * k + 1)) => pw_rleave32 h3 (by omega) (t : Int)
        have HE := Lib.hid hE
        have HR := Lib.hid hR
        have HZ := Lib.hid (show InM M32 ({} : FrS).own by show InM M32 0; exact ⟨by decide, by decide⟩)
        clear hE hR
        go_wp2_with (first | (go_at_call 28; refine HE.out.mono ?_; rintro e w10 ⟨rfl, γ10, h10⟩; have HP10 := Lib.hid h10; clear h10) | (go_at_call 32; refine (HR.out _ _ _ HP10.out).mono ?_; rintro e w11 ⟨rfl, γ11, h11⟩; have g0 : w11.cell? ⟨w6.heap.size + 1, t * 11, none⟩ = some (.int .i64 op) := h11.gcell hf 0 (by omega); have g1 : w11.cell? ⟨w6.heap.size + 1, t * 11 + 1, none⟩ = some (.int .i64 n) := h11.gcell hf 1 (by omega); have g2 : w11.cell? ⟨w6.heap.size + 1, t * 11 + 2, none⟩ = some (.int .i64 phase) := h11.gcell hf 2 (by omega); have g3 : w11.cell? ⟨w6.heap.size + 1, t * 11 + 3, none⟩ = some (.int .i64 pc) := h11.gcell hf 3 (by omega); have g4 : w11.cell? ⟨w6.heap.size + 1, t * 11 + 4, none⟩ = some (.int .i64 i) := h11.gcell hf 4 (by omega); have g5 : w11.cell? ⟨w6.heap.size + 1, t * 11 + 5, none⟩ = some (.int .i64 j) := h11.gcell hf 5 (by omega); have g6 : w11.cell? ⟨w6.heap.size + 1, t * 11 + 6, none⟩ = some (.int .u64 from_) := h11.gcell hf 6 (by omega); have g7 : w11.cell? ⟨w6.heap.size + 1, t * 11 + 7, none⟩ = some (.int .u64 min) := h11.gcell hf 7 (by omega); have g8 : w11.cell? ⟨w6.heap.size + 1, t * 11 + 8, none⟩ = some (.int .u64 val) := h11.gcell hf 8 (by omega); have g9 : w11.cell? ⟨w6.heap.size + 1, t * 11 + 9, none⟩ = some (.int .u64 own) := h11.gcell hf 9 (by omega); have g10 : w11.cell? ⟨w6.heap.size + 1, t * 11 + 10, none⟩ = some (.slice da dn dc) := h11.gcell hf 10 (by omega); have f0 : w11.cell? ⟨w6.heap.size, t * 11, none⟩ = some (.int .i64 op) := h11.fcell hf 0 (by omega); have f1 : w11.cell? ⟨w6.heap.size, t * 11 + 1, none⟩ = some (.int .i64 n) := h11.fcell hf 1 (by omega); have f2 : w11.cell? ⟨w6.heap.size, t * 11 + 2, none⟩ = some (.int .i64 phase) := h11.fcell hf 2 (by omega); have f3 : w11.cell? ⟨w6.heap.size, t * 11 + 3, none⟩ = some (.int .i64 pc) := h11.fcell hf 3 (by omega); have f4 : w11.cell? ⟨w6.heap.size, t * 11 + 4, none⟩ = some (.int .i64 i) := h11.fcell hf 4 (by omega); have f5 : w11.cell? ⟨w6.heap.size, t * 11 + 5, none⟩ = some (.int .i64 j) := h11.fcell hf 5 (by omega); have f6 : w11.cell? ⟨w6.heap.size, t * 11 + 6, none⟩ = some (.int .u32 from_) := h11.fcell hf 6 (by omega); have f7 : w11.cell? ⟨w6.heap.size, t * 11 + 7, none⟩ = some (.int .u32 min) := h11.fcell hf 7 (by omega); have f8 : w11.cell? ⟨w6.heap.size, t * 11 + 8, none⟩ = some (.int .u32 val) := h11.fcell hf 8 (by omega); have f9 : w11.cell? ⟨w6.heap.size, t * 11 + 9, none⟩ = some (.int .u32 own) := h11.fcell hf 9 (by omega); have f10 : w11.cell? ⟨w6.heap.size, t * 11 + 10, none⟩ = some (.slice da dn dc) := h11.fcell hf 10 (by omega); have hzg := h11.g.frozen; have hzf := h11.f.frozen; have i11 : w11.cell? ⟨w6.heap.size + 1 + 1, t, none⟩ = some (.bool true) := (h11.i.cell t).trans (by simp [hv]); have iz11 := h11.i.frozen t; have hz := ((h11.setI t false).putF hf {} HZ.out).putG hf {}; dsimp only at hz; have HPZ := Lib.hid hz; clear h11 hz) | (go_at_call 27; refine (pw_wait32 HPZ.out).mono ?_; rintro e w14 ⟨rfl, h14⟩; have HP14 := Lib.hid h14; clear h14) | (go_at_call 34; refine (pw_rwait32 HP14.out).mono ?_; rintro e w15 ⟨rfl, h15⟩; have HP15 := Lib.hid h15; clear h15))
        go_round
        case rel => exact ⟨k + 1, _, _, _, _, by go_num, by omega, by simp [hnf], by simp [hni], HP15.out⟩
        case measure => simp only [intOf]; omega
    · obtain rfl : k = xs.length := by omega
      have hln := hpw.len
      obtain ⟨rc, cv, hv2, lv, hRF, hRR⟩ := hpw.ref
      obtain ⟨AL, cL, rfl, _⟩ := own_form hRF.log.1
      have hlg : wr.cell? ⟨q, 8, none⟩ = some (.slice AL b.log.length cL) := hRF.brd.cell 8
      have hq8 : q < wr.heap.size := hRF.brd.lt
      have HPW := Lib.hid hpw
      have HRF := Lib.hid hRF
      have HLN := Lib.hid (show b.log.length ≤ 1000000 by omega)
      clear hpw hRF hRR hln
      go_wp2_with fail
      go_region_held3 (fun w' => w'.cell? ⟨q, 8, none⟩ = some (.slice AL b.log.length cL)) (go_keep) (first
        | (go_at_call 36; refine (bLog32 _ γ 1 p b (HPW.out.brd.below (by (repeat (with_reducible first | exact Below.refl _ _ | refine Below.drew ?_ | refine below_drewN ?_ _ | refine Below.setCell ?_ ?_ _ | refine Below.alloc ?_ ?_ _)); all_goals first | omega | (dsimp only; omega) | (simp; omega))) HLN.out).mono ?_; rintro e w16 ⟨v, rfl, hown, hb16⟩; obtain ⟨A6, c6, rfl, _⟩ := own_form hown; obtain ⟨hc16, hf16⟩ := bcell hb16; have hz16 : wr.heap.size ≤ w16.heap.size := Nat.le_trans (by simp) hb16.size; have hq16 : w16.cell? ⟨q, 8, none⟩ = some (.slice AL b.log.length cL) := (hb16.cell (p := ⟨q, 8, none⟩) hq8).trans hlg; have HO := Lib.hid (And.intro hown (below_chain (a := wr) (by (repeat (with_reducible first | exact Below.refl _ _ | refine Below.drew ?_ | refine below_drewN ?_ _ | refine Below.setCell ?_ ?_ _ | refine Below.alloc ?_ ?_ _)); all_goals first | omega | (dsimp only; omega) | (simp; omega)) hb16)); clear hown hb16)
        | (go_at_call 35; refine (rsameAcc b.log HLN.out _ _ _ _ _ _ _ ((Reads.of_own HO.out.1).below (by (repeat (with_reducible first | exact Below.refl _ _ | refine Below.drew ?_ | refine below_drewN ?_ _ | refine Below.setCell ?_ ?_ _ | refine Below.alloc ?_ ?_ _)); all_goals first | omega | (dsimp only; omega) | (simp; omega))) ((Reads.of_own ((HRF.out.fr (Fr.of_below HO.out.2 NoId γ) (fun h => h)).log.1)).below (by (repeat (with_reducible first | exact Below.refl _ _ | refine Below.drew ?_ | refine below_drewN ?_ _ | refine Below.setCell ?_ ?_ _ | refine Below.alloc ?_ ?_ _)); all_goals first | omega | (dsimp only; omega) | (simp; omega)))).mono ?_; rintro e w17 ⟨rfl, hb17⟩; have hq17 : w17.cell? ⟨q, 8, none⟩ = some (.slice AL b.log.length cL) := (hb17.cell (p := ⟨q, 8, none⟩) (Nat.lt_of_lt_of_le hq8 hz16)).trans hq16; have HB17 := Lib.hid hb17; clear hb17))
      go_wp2_with fail
      go_ret
      have hbe : Below w0.heap.size w0 wr := HPW.out.old.bel
      exact ⟨rfl, hbe.trans ((below_chain (a := wr) (by repeat (with_reducible first | exact HO.out.2 | refine Below.drew ?_ | refine below_drewN ?_ _)) HB17.out).mono hbe.size)⟩
set_option maxRecDepth 100000 in
theorem played18_64 (c : Cf) (up : List (List Int)) (hun : c.un = up.length) (hok : CfOk c up) (hll6 : ∀ l ∈ up, l.length ≤ 1000000) (hst : 0 ≤ c.start ∧ c.start ≤ 18446744073709551615) (hwid : c.width = 64) (xs : List Int) (hx : ∀ x ∈ xs, 0 ≤ x ∧ x < 256) (hxl : xs.length ≤ 300) (A : Option Addr) (xc : Nat) (w0 : World)
    (hU : UpAt w0 (fun b => b < w0.heap.size) c.ua up) (hA : KAt .u8 w0 (fun b => b < w0.heap.size) A xs) :
    Calls Tryz.prog 10 #[.agg c.vs.toArray, .slice A xs.length xc] w0 fun e w' => e = .returned (.bool true) ∧ Below w0.heap.size w0 w' := by
  obtain ⟨variant, width, cap, producers, start, ua, un, uc⟩ := c
  unfold Cf.vs at *
  dsimp only at *
  subst hwid
  have hvar := hok.variant
  have hcap := hok.cap
  have HOF := Lib.hid (fun W (hW : Below w0.heap.size w0 W) => layof (fun b => b < w0.heap.size) ⟨variant, 64, cap, producers, start, ua, un, uc⟩ up hun hok hll6 W (fun b hb => Nat.lt_of_lt_of_le hb hW.size) (hU.below hW (fun b hb => hb)))
  have HNW := Lib.hid (fun (Bk : Nat → Prop) ua uc W hB hU => bnew64 Bk ⟨variant, 64, cap, producers, start, ua, un, uc⟩ up hun (hok.ua ua uc) rfl hst hll6 W hB hU)
  have HFT := Lib.hid (fun ua uc => newBS_fit ⟨variant, 64, cap, producers, start, ua, un, uc⟩ (hok.ua ua uc) hun)
  have HRN := Lib.hid (fun W => rnew12 ⟨variant, 64, cap, producers, start, ua, un, uc⟩ hok hun hst W)
  have HVC := Lib.hid (And.intro hvar hcap)
  unfold Cf.vs at HOF HRN
  unfold Lay.vs at HNW
  dsimp only at HOF HRN HNW HFT HVC
  subst hun
  obtain ⟨d, hd⟩ : ∃ d : Bool, ∀ ua uc, decide ((newBS (mkLay ⟨variant, 64, cap, producers, start, ua, up.length, uc⟩)).l.c.variant = 5) = d := ⟨decide (variant = 5), fun ua uc => by show decide ((mkLay _).c.variant = 5) = _; rw [mkLay_c]⟩
  have hdd : (d != d) = false := by cases d <;> rfl
  have HAX := Lib.hid (And.intro hA hx)
  clear hU hll6 hst hok hA hx hvar hcap
  go_enter Tryz.func10, Tryz.ntmps10
  go_wp2_with (first
    | (go_at_call 12; have hW1 := ((Below.refl w0.heap.size w0).alloc (Nat.le_refl _) (Obj.cells #[.int .i64 variant, .int .i64 64, .int .i64 cap, .int .i64 producers, .int .u64 start, .slice ua up.length uc] 25)); have hq := HOF.out _ hW1; refine hq.mono ?_; clear hq; rintro e w3 ⟨A3, c3, rfl, hcl3, hU3, hb3⟩; unfold Lay.vs; obtain ⟨hc3, hf3⟩ := bcell hb3; have HU3 := Lib.hid hU3; have HB3 := Lib.hid hb3; have hz3 : w0.heap.size < w3.heap.size := Nat.lt_of_lt_of_le (by simp) hb3.size; have hy3 : w0.heap.size < w3.heap.size + 1 := Nat.lt_succ_of_lt hz3; have HW3 := Lib.hid (hW1.trans (hb3.mono hW1.size)); clear hU3 hb3 hcl3 hW1))
  go_region_held3 (fun w' => w'.cell? ⟨w0.heap.size, 0, none⟩ = some (.int .i64 variant) ∧ w'.cell? ⟨w0.heap.size, 1, none⟩ = some (.int .i64 64) ∧ w'.cell? ⟨w0.heap.size, 2, none⟩ = some (.int .i64 cap) ∧ w'.cell? ⟨w0.heap.size, 3, none⟩ = some (.int .i64 producers) ∧ w'.cell? ⟨w0.heap.size, 4, none⟩ = some (.int .u64 start) ∧ w'.cell? ⟨w0.heap.size, 5, none⟩ = some (.slice ua up.length uc)
      ∧ w'.cell? ⟨w3.heap.size, 0, none⟩ = some (.int .i64 (mkLay ⟨variant, 64, cap, producers, start, A3, up.length, c3⟩).c.variant) ∧ w'.cell? ⟨w3.heap.size, 1, none⟩ = some (.int .i64 (mkLay ⟨variant, 64, cap, producers, start, A3, up.length, c3⟩).c.width) ∧ w'.cell? ⟨w3.heap.size, 2, none⟩ = some (.int .i64 (mkLay ⟨variant, 64, cap, producers, start, A3, up.length, c3⟩).c.cap) ∧ w'.cell? ⟨w3.heap.size, 3, none⟩ = some (.int .i64 (mkLay ⟨variant, 64, cap, producers, start, A3, up.length, c3⟩).c.producers) ∧ w'.cell? ⟨w3.heap.size, 4, none⟩ = some (.int .u64 (mkLay ⟨variant, 64, cap, producers, start, A3, up.length, c3⟩).c.start) ∧ w'.cell? ⟨w3.heap.size, 5, none⟩ = some (.slice (mkLay ⟨variant, 64, cap, producers, start, A3, up.length, c3⟩).c.ua (mkLay ⟨variant, 64, cap, producers, start, A3, up.length, c3⟩).c.un (mkLay ⟨variant, 64, cap, producers, start, A3, up.length, c3⟩).c.uc) ∧ w'.cell? ⟨w3.heap.size, 6, none⟩ = some (.int .i64 (mkLay ⟨variant, 64, cap, producers, start, A3, up.length, c3⟩).cursor) ∧ w'.cell? ⟨w3.heap.size, 7, none⟩ = some (.int .i64 (mkLay ⟨variant, 64, cap, producers, start, A3, up.length, c3⟩).claim) ∧ w'.cell? ⟨w3.heap.size, 8, none⟩ = some (.int .i64 (mkLay ⟨variant, 64, cap, producers, start, A3, up.length, c3⟩).ticket) ∧ w'.cell? ⟨w3.heap.size, 9, none⟩ = some (.int .i64 (mkLay ⟨variant, 64, cap, producers, start, A3, up.length, c3⟩).serving) ∧ w'.cell? ⟨w3.heap.size, 10, none⟩ = some (.int .i64 (mkLay ⟨variant, 64, cap, producers, start, A3, up.length, c3⟩).next) ∧ w'.cell? ⟨w3.heap.size, 11, none⟩ = some (.int .i64 (mkLay ⟨variant, 64, cap, producers, start, A3, up.length, c3⟩).marks) ∧ w'.cell? ⟨w3.heap.size, 12, none⟩ = some (.int .i64 (mkLay ⟨variant, 64, cap, producers, start, A3, up.length, c3⟩).slots) ∧ w'.cell? ⟨w3.heap.size, 13, none⟩ = some (.int .i64 (mkLay ⟨variant, 64, cap, producers, start, A3, up.length, c3⟩).cells)) (go_keep)
    (first | (go_at_call 13; refine (HNW.out _ A3 c3 _ (by intro b hb; have := hb.2; simp; omega) (HU3.out.below (B := w3.heap.size) (by (repeat (with_reducible first | exact Below.refl _ _ | refine Below.drew ?_ | refine below_drewN ?_ _ | refine Below.setCell ?_ ?_ _ | refine Below.alloc ?_ ?_ _)); all_goals first | omega | (dsimp only; omega) | (simp; omega)) (fun b hb => hb.2))).mono ?_; intro e w4 hN; obtain ⟨p, γ4, rfl, hb4, hp4, hB4, hO4, hl4⟩ := new_old 110 (w0 := w0) (by (repeat (with_reducible first | exact HW3.out | refine Below.drew ?_ | refine below_drewN ?_ _ | refine Below.alloc ?_ ?_ _)); all_goals first | exact HW3.out.size | (have := HW3.out.size; simp; omega)) hN; obtain ⟨hc4, hf4⟩ := bcell hb4; have hz4 : w3.heap.size < w4.heap.size := Nat.lt_of_lt_of_le (by simp) hb4.size; have hy4 : w0.heap.size < w4.heap.size := Nat.lt_trans hz3 hz4; have HB4 := Lib.hid hb4; have HN4 := Lib.hid (And.intro hB4 (And.intro hO4 hp4)); clear hN hb4 hp4 hB4 hO4 hl4) | (go_at_call 14; refine (HRN.out _).mono ?_; intro e w5 hN; obtain ⟨q, rfl, hb5, _, hRR⟩ := refNew_at (c1 := ⟨variant, 64, cap, producers, start, A3, up.length, c3⟩) HVC.out.1 HVC.out.2 rfl hN; obtain ⟨hc5, hf5⟩ := bcell hb5; have hz5 : w4.heap.size ≤ w5.heap.size := Nat.le_trans (by simp) hb5.size; have hp5 := pp5 HN4.out.2.1 HN4.out.1 (by (repeat (with_reducible first | exact Below.refl _ _ | refine Below.drew ?_ | refine below_drewN ?_ _ | refine Below.setCell ?_ ?_ _ | refine Below.alloc ?_ ?_ _)); all_goals first | omega | (dsimp only; omega) | (simp; omega)) hRR; obtain ⟨γ5, hq5⟩ := hp5; have HP5 := Lib.hid hq5; clear hN hb5 hRR hq5))
  have hi44 : (Tryz.prog.info? 86).map (·.size) = some 44 := by kernel_rfl
  have hj44 : (Tryz.prog.info? 76).map (·.size) = some 44 := by kernel_rfl
  go_wp2_with (first
    | (refine wpList_store_made2 (by rfl) 86 (.tmp 9) (.tmp 35) (by rfl) _ _ _ _ (frsCs .u64 [] (List.replicate 4 {}) []) (by rfl) (by rfl) (by rfl) (by simp) (by rfl) (by exact hi44) (by rfl) (by kernel_rfl) ?_)
    | (refine wpList_store_made2 (by rfl) 76 (.tmp 10) (.tmp 36) (by rfl) _ _ _ _ (frsCs .u64 [] (List.replicate 4 {}) []) (by rfl) (by rfl) (by rfl) (by simp) (by rfl) (by exact hj44) (by rfl) (by kernel_rfl) ?_)
    | (go_at_call 31; refine (r18Has _ γ5 4 q _ _ (HP6.out.2.2.below (by (repeat (with_reducible first | exact Below.refl _ _ | refine Below.drew ?_ | refine below_drewN ?_ _ | refine Below.setCell ?_ ?_ _ | refine Below.alloc ?_ ?_ _)); all_goals first | omega | (dsimp only; omega) | (simp; omega)))).mono ?_; rintro e w' ⟨he, hw⟩; rw [hd] at he; subst he hw; have hs7 := pw_start64 HP6.out.1 HP6.out.2.1 HP6.out.2.2 (HFT.out A3 c3) (by first | exact .inl rfl | exact .inr rfl) (by rfl) (by rfl); obtain ⟨γ7, hS7⟩ := hs7; have HS := Lib.hid hS7; clear hS7) | (go_at_call 37; refine (tHas64 _ γ5 1 p _ (HP5.out.2.1.below (by (repeat (with_reducible first | exact Below.refl _ _ | refine Below.drew ?_ | refine below_drewN ?_ _ | refine Below.setCell ?_ ?_ _ | refine Below.alloc ?_ ?_ _)); all_goals first | omega | (dsimp only; omega) | (simp; omega)))).mono ?_; rintro e w6 ⟨he, hb6⟩; rw [hd] at he; subst he; have HP6 := Lib.hid (pp6 HP5.out (by (repeat (with_reducible first | exact Below.refl _ _ | refine Below.drew ?_ | refine below_drewN ?_ _ | refine Below.setCell ?_ ?_ _ | refine Below.alloc ?_ ?_ _)); all_goals first | omega | (dsimp only; omega) | (simp; omega)) hb6); clear hb6))
  try clear HOF HNW HFT HRN HVC hd hdd hi44 hj44 hc3 hf3 hz3 hy3 hc4 hf4 hz4 hy4 hc5 hf5 hz5 HP5 HP6 HN4 HB4 HB3 HU3 HW3
  go_loopw [12] (fun i wr => ∃ (k : Nat) (fs : List FrS) (ins : List Bool) (γ : Nat → Nat) (b : BS), i = .int .i64 k ∧ k ≤ xs.length ∧ fs.length = 4 ∧ ins.length = 4 ∧ PW 97 22 110 86 76 77 .u64 M64 ⟨⟨variant, 64, cap, producers, start, ua, up.length, uc⟩, w0, p, q, w6.heap.size, w6.heap.size + 1, w6.heap.size + 1 + 1⟩ wr γ b b fs fs ins (2 * k)) (fun i _ => xs.length - (intOf i).toNat)
  case atStart => exact ⟨0, _, _, _, _, rfl, by omega, rfl, rfl, HS.out⟩
  case round =>
    obtain ⟨k, fs, ins, γ, b, rfl, hk, hnf, hni, hpw⟩ := hrel
    by_cases hlt : k < xs.length
    · have hkx : (k : Int) < xs.length := by omega
      have hgx := List.getElem?_eq_getElem hlt
      have hxb := HAX.out.2 _ (List.getElem_mem hlt)
      generalize xs[k] = x at hgx hxb
      obtain ⟨ab, ao, rfl, hab, hac⟩ := HAX.out.1 k x hgx
      obtain ⟨t, ht4, htx⟩ : ∃ t : Nat, t < 4 ∧ x % 4 = t := ⟨(x % 4).toNat, by omega, by omega⟩
      have hac2 := (hpw.old.bel.cell (p := ⟨ab, ao + k, none⟩) hab).trans hac
      obtain ⟨f, hf⟩ := get_some hnf ht4
      obtain ⟨v, hv⟩ := get_some hni ht4
      have hgc : wr.cell? ⟨w6.heap.size + 1 + 1, t, none⟩ = some (.bool v) := (hpw.i.cell t).trans (by simp [hv])
      have hgz := hpw.i.frozen t
      have hk3 : k ≤ 300 := by omega
      have hti : (t : Int) < 4 := by omega
      have HPW := Lib.hid hpw
      clear hpw hac hab hgx
      obtain ⟨op, n, phase, pc, i, j, from_, min, val, own, da, dn, dc⟩ := f
      cases v
      · have hE := pw_enter64 HPW.out (by omega) t _ hf
        have hR := fun w3 γ3 b3 fs3 (h3 : PW 97 22 110 86 76 77 .u64 M64 ⟨⟨variant, 64, cap, producers, start, ua, up.length, uc⟩, w0, p, q, w6.heap.size, w6.heap.size + 1, w6.heap.size + 1 + 1⟩ w3 γ3 b3 b fs3 fs ins (2 * k + 1)) => pw_renter64 h3 (by omega) (t : Int) ⟨op, n, phase, pc, i, j, from_, min, val, own, da, dn, dc⟩
        have hfit := HPW.out.fb.enter_own (t : Int) pc (HPW.out.own t _ hf)
        dsimp only at hE hR hfit
        generalize hr : enterP M64 b t pc own = r at hE hR hfit
        obtain ⟨d', b', pc', ow'⟩ := r
        unfold FrS.vs at hR
        dsimp only at hE hR hfit
        have HE := Lib.hid hE
        have HR := Lib.hid hR
        have hm1 : ow' % 18446744073709551616 = ow' := by unfold InM M64 at hfit; omega
        have hm2 : IntKind.u64.wrap ow' = ow' := by simp [IntKind.wrap, IntKind.bits, IntKind.signed]; omega
        have HFI := Lib.hid hfit
        clear hE hR hr hfit
        go_wp2_with (first | (go_at_call 39; refine HE.out.mono ?_; rintro e w10 ⟨rfl, γ10, h10⟩; have e0 : w10.cell? ⟨w6.heap.size + 1, t * 11, none⟩ = some (.int .i64 op) := h10.gcell hf 0 (by omega); have e1 : w10.cell? ⟨w6.heap.size + 1, t * 11 + 1, none⟩ = some (.int .i64 n) := h10.gcell hf 1 (by omega); have e2 : w10.cell? ⟨w6.heap.size + 1, t * 11 + 2, none⟩ = some (.int .i64 phase) := h10.gcell hf 2 (by omega); have e3 : w10.cell? ⟨w6.heap.size + 1, t * 11 + 3, none⟩ = some (.int .i64 pc) := h10.gcell hf 3 (by omega); have e4 : w10.cell? ⟨w6.heap.size + 1, t * 11 + 4, none⟩ = some (.int .i64 i) := h10.gcell hf 4 (by omega); have e5 : w10.cell? ⟨w6.heap.size + 1, t * 11 + 5, none⟩ = some (.int .i64 j) := h10.gcell hf 5 (by omega); have e6 : w10.cell? ⟨w6.heap.size + 1, t * 11 + 6, none⟩ = some (.int .u64 from_) := h10.gcell hf 6 (by omega); have e7 : w10.cell? ⟨w6.heap.size + 1, t * 11 + 7, none⟩ = some (.int .u64 min) := h10.gcell hf 7 (by omega); have e8 : w10.cell? ⟨w6.heap.size + 1, t * 11 + 8, none⟩ = some (.int .u64 val) := h10.gcell hf 8 (by omega); have e9 : w10.cell? ⟨w6.heap.size + 1, t * 11 + 9, none⟩ = some (.int .u64 own) := h10.gcell hf 9 (by omega); have e10 : w10.cell? ⟨w6.heap.size + 1, t * 11 + 10, none⟩ = some (.slice da dn dc) := h10.gcell hf 10 (by omega); have HP10 := Lib.hid h10; clear h10) | (go_at_call 33; refine (HR.out _ _ _ _ HP10.out).mono ?_; rintro e w11 ⟨rfl, γ11, h11⟩; have g0 : w11.cell? ⟨w6.heap.size + 1, t * 11, none⟩ = some (.int .i64 op) := h11.gcell hf 0 (by omega); have g1 : w11.cell? ⟨w6.heap.size + 1, t * 11 + 1, none⟩ = some (.int .i64 n) := h11.gcell hf 1 (by omega); have g2 : w11.cell? ⟨w6.heap.size + 1, t * 11 + 2, none⟩ = some (.int .i64 phase) := h11.gcell hf 2 (by omega); have g3 : w11.cell? ⟨w6.heap.size + 1, t * 11 + 3, none⟩ = some (.int .i64 pc) := h11.gcell hf 3 (by omega); have g4 : w11.cell? ⟨w6.heap.size + 1, t * 11 + 4, none⟩ = some (.int .i64 i) := h11.gcell hf 4 (by omega); have g5 : w11.cell? ⟨w6.heap.size + 1, t * 11 + 5, none⟩ = some (.int .i64 j) := h11.gcell hf 5 (by omega); have g6 : w11.cell? ⟨w6.heap.size + 1, t * 11 + 6, none⟩ = some (.int .u64 from_) := h11.gcell hf 6 (by omega); have g7 : w11.cell? ⟨w6.heap.size + 1, t * 11 + 7, none⟩ = some (.int .u64 min) := h11.gcell hf 7 (by omega); have g8 : w11.cell? ⟨w6.heap.size + 1, t * 11 + 8, none⟩ = some (.int .u64 val) := h11.gcell hf 8 (by omega); have g9 : w11.cell? ⟨w6.heap.size + 1, t * 11 + 9, none⟩ = some (.int .u64 own) := h11.gcell hf 9 (by omega); have g10 : w11.cell? ⟨w6.heap.size + 1, t * 11 + 10, none⟩ = some (.slice da dn dc) := h11.gcell hf 10 (by omega); have f3 : w11.cell? ⟨w6.heap.size, t * 11 + 3, none⟩ = some (.int .i64 pc') := h11.fcell (List.getElem?_set_self (List.getElem?_eq_some_iff.1 hf).1) 3 (by omega); have f9 : w11.cell? ⟨w6.heap.size, t * 11 + 9, none⟩ = some (.int .u64 ow') := h11.fcell (List.getElem?_set_self (List.getElem?_eq_some_iff.1 hf).1) 9 (by omega); have hzg := h11.g.frozen; have hF11 : w6.heap.size < w11.heap.size := h11.f.lt; have hG11 : w6.heap.size + 1 < w11.heap.size := h11.g.lt; have hI11 : w6.heap.size + 1 + 1 < w11.heap.size := h11.i.lt; have i11 : w11.cell? ⟨w6.heap.size + 1 + 1, t, none⟩ = some (.bool false) := (h11.i.cell t).trans (by simp [hv]); have iz11 := h11.i.frozen t; have HP11 := Lib.hid h11; clear h11))
        have hpg := HP11.out.putG hf ⟨op, n, phase, pc', i, j, from_, min, val, ow', da, dn, dc⟩
        dsimp only at hpg
        have HPG := Lib.hid hpg
        clear hpg
        go_quiet (fail)
        have HP13 := Lib.hid (((HPG.out.alloc (Obj.cells #[.int .i64 op, .int .i64 n, .int .i64 phase, .int .i64 pc', .int .i64 i, .int .i64 j, .int .u64 from_, .int .u64 min, .int .u64 val, .int .u64 ow', .slice da dn dc] 75)).drewN nq).setI t d')
        go_wp2_with (first | (go_at_call 40; refine (pw_wait64 HP13.out).mono ?_; rintro e w14 ⟨rfl, h14⟩; have HP14 := Lib.hid h14; clear h14) | (go_at_call 34; refine (pw_rwait64 HP14.out).mono ?_; rintro e w15 ⟨rfl, h15⟩; have HP15 := Lib.hid h15; clear h15))
        go_round
        case rel => exact ⟨k + 1, _, _, _, _, by go_num, by omega, by simp [hnf], by simp [hni], HP15.out⟩
        case measure => simp only [intOf]; omega
      · have hE := pw_leave64 HPW.out (by omega) t
        have hR := fun w3 γ3 b3 (h3 : PW 97 22 110 86 76 77 .u64 M64 ⟨⟨variant, 64, cap, producers, start, ua, up.length, uc⟩, w0, p, q, w6.heap.size, w6.heap.size + 1, w6.heap.size + 1 + 1⟩ w3 γ3 b3 b fs fs ins (2 * k + 1)) => pw_rleave64 h3 (by omega) (t : Int)
        have HE := Lib.hid hE
        have HR := Lib.hid hR
        have HZ := Lib.hid (show InM M64 ({} : FrS).own by show InM M64 0; exact ⟨by decide, by decide⟩)
        clear hE hR
        go_wp2_with (first | (go_at_call 38; refine HE.out.mono ?_; rintro e w10 ⟨rfl, γ10, h10⟩; have HP10 := Lib.hid h10; clear h10) | (go_at_call 32; refine (HR.out _ _ _ HP10.out).mono ?_; rintro e w11 ⟨rfl, γ11, h11⟩; have g0 : w11.cell? ⟨w6.heap.size + 1, t * 11, none⟩ = some (.int .i64 op) := h11.gcell hf 0 (by omega); have g1 : w11.cell? ⟨w6.heap.size + 1, t * 11 + 1, none⟩ = some (.int .i64 n) := h11.gcell hf 1 (by omega); have g2 : w11.cell? ⟨w6.heap.size + 1, t * 11 + 2, none⟩ = some (.int .i64 phase) := h11.gcell hf 2 (by omega); have g3 : w11.cell? ⟨w6.heap.size + 1, t * 11 + 3, none⟩ = some (.int .i64 pc) := h11.gcell hf 3 (by omega); have g4 : w11.cell? ⟨w6.heap.size + 1, t * 11 + 4, none⟩ = some (.int .i64 i) := h11.gcell hf 4 (by omega); have g5 : w11.cell? ⟨w6.heap.size + 1, t * 11 + 5, none⟩ = some (.int .i64 j) := h11.gcell hf 5 (by omega); have g6 : w11.cell? ⟨w6.heap.size + 1, t * 11 + 6, none⟩ = some (.int .u64 from_) := h11.gcell hf 6 (by omega); have g7 : w11.cell? ⟨w6.heap.size + 1, t * 11 + 7, none⟩ = some (.int .u64 min) := h11.gcell hf 7 (by omega); have g8 : w11.cell? ⟨w6.heap.size + 1, t * 11 + 8, none⟩ = some (.int .u64 val) := h11.gcell hf 8 (by omega); have g9 : w11.cell? ⟨w6.heap.size + 1, t * 11 + 9, none⟩ = some (.int .u64 own) := h11.gcell hf 9 (by omega); have g10 : w11.cell? ⟨w6.heap.size + 1, t * 11 + 10, none⟩ = some (.slice da dn dc) := h11.gcell hf 10 (by omega); have f0 : w11.cell? ⟨w6.heap.size, t * 11, none⟩ = some (.int .i64 op) := h11.fcell hf 0 (by omega); have f1 : w11.cell? ⟨w6.heap.size, t * 11 + 1, none⟩ = some (.int .i64 n) := h11.fcell hf 1 (by omega); have f2 : w11.cell? ⟨w6.heap.size, t * 11 + 2, none⟩ = some (.int .i64 phase) := h11.fcell hf 2 (by omega); have f3 : w11.cell? ⟨w6.heap.size, t * 11 + 3, none⟩ = some (.int .i64 pc) := h11.fcell hf 3 (by omega); have f4 : w11.cell? ⟨w6.heap.size, t * 11 + 4, none⟩ = some (.int .i64 i) := h11.fcell hf 4 (by omega); have f5 : w11.cell? ⟨w6.heap.size, t * 11 + 5, none⟩ = some (.int .i64 j) := h11.fcell hf 5 (by omega); have f6 : w11.cell? ⟨w6.heap.size, t * 11 + 6, none⟩ = some (.int .u64 from_) := h11.fcell hf 6 (by omega); have f7 : w11.cell? ⟨w6.heap.size, t * 11 + 7, none⟩ = some (.int .u64 min) := h11.fcell hf 7 (by omega); have f8 : w11.cell? ⟨w6.heap.size, t * 11 + 8, none⟩ = some (.int .u64 val) := h11.fcell hf 8 (by omega); have f9 : w11.cell? ⟨w6.heap.size, t * 11 + 9, none⟩ = some (.int .u64 own) := h11.fcell hf 9 (by omega); have f10 : w11.cell? ⟨w6.heap.size, t * 11 + 10, none⟩ = some (.slice da dn dc) := h11.fcell hf 10 (by omega); have hzg := h11.g.frozen; have hzf := h11.f.frozen; have i11 : w11.cell? ⟨w6.heap.size + 1 + 1, t, none⟩ = some (.bool true) := (h11.i.cell t).trans (by simp [hv]); have iz11 := h11.i.frozen t; have hz := ((h11.setI t false).putF hf {} HZ.out).putG hf {}; dsimp only at hz; have HPZ := Lib.hid hz; clear h11 hz) | (go_at_call 40; refine (pw_wait64 HPZ.out).mono ?_; rintro e w14 ⟨rfl, h14⟩; have HP14 := Lib.hid h14; clear h14) | (go_at_call 34; refine (pw_rwait64 HP14.out).mono ?_; rintro e w15 ⟨rfl, h15⟩; have HP15 := Lib.hid h15; clear h15))
        go_round
        case rel => exact ⟨k + 1, _, _, _, _, by go_num, by omega, by simp [hnf], by simp [hni], HP15.out⟩
        case measure => simp only [intOf]; omega
    · obtain rfl : k = xs.length := by omega
      have hln := hpw.len
      obtain ⟨rc, cv, hv2, lv, hRF, hRR⟩ := hpw.ref
      obtain ⟨AL, cL, rfl, _⟩ := own_form hRF.log.1
      have hlg : wr.cell? ⟨q, 8, none⟩ = some (.slice AL b.log.length cL) := hRF.brd.cell 8
      have hq8 : q < wr.heap.size := hRF.brd.lt
      have HPW := Lib.hid hpw
      have HRF := Lib.hid hRF
      have HLN := Lib.hid (show b.log.length ≤ 1000000 by omega)
      clear hpw hRF hRR hln
      go_wp2_with fail
      go_region_held3 (fun w' => w'.cell? ⟨q, 8, none⟩ = some (.slice AL b.log.length cL)) (go_keep) (first
        | (go_at_call 41; refine (bLog64 _ γ 1 p b (HPW.out.brd.below (by (repeat (with_reducible first | exact Below.refl _ _ | refine Below.drew ?_ | refine below_drewN ?_ _ | refine Below.setCell ?_ ?_ _ | refine Below.alloc ?_ ?_ _)); all_goals first | omega | (dsimp only; omega) | (simp; omega))) HLN.out).mono ?_; rintro e w16 ⟨v, rfl, hown, hb16⟩; obtain ⟨A6, c6, rfl, _⟩ := own_form hown; obtain ⟨hc16, hf16⟩ := bcell hb16; have hz16 : wr.heap.size ≤ w16.heap.size := Nat.le_trans (by simp) hb16.size; have hq16 : w16.cell? ⟨q, 8, none⟩ = some (.slice AL b.log.length cL) := (hb16.cell (p := ⟨q, 8, none⟩) hq8).trans hlg; have HO := Lib.hid (And.intro hown (below_chain (a := wr) (by (repeat (with_reducible first | exact Below.refl _ _ | refine Below.drew ?_ | refine below_drewN ?_ _ | refine Below.setCell ?_ ?_ _ | refine Below.alloc ?_ ?_ _)); all_goals first | omega | (dsimp only; omega) | (simp; omega)) hb16)); clear hown hb16)
        | (go_at_call 35; refine (rsameAcc b.log HLN.out _ _ _ _ _ _ _ ((Reads.of_own HO.out.1).below (by (repeat (with_reducible first | exact Below.refl _ _ | refine Below.drew ?_ | refine below_drewN ?_ _ | refine Below.setCell ?_ ?_ _ | refine Below.alloc ?_ ?_ _)); all_goals first | omega | (dsimp only; omega) | (simp; omega))) ((Reads.of_own ((HRF.out.fr (Fr.of_below HO.out.2 NoId γ) (fun h => h)).log.1)).below (by (repeat (with_reducible first | exact Below.refl _ _ | refine Below.drew ?_ | refine below_drewN ?_ _ | refine Below.setCell ?_ ?_ _ | refine Below.alloc ?_ ?_ _)); all_goals first | omega | (dsimp only; omega) | (simp; omega)))).mono ?_; rintro e w17 ⟨rfl, hb17⟩; have hq17 : w17.cell? ⟨q, 8, none⟩ = some (.slice AL b.log.length cL) := (hb17.cell (p := ⟨q, 8, none⟩) (Nat.lt_of_lt_of_le hq8 hz16)).trans hq16; have HB17 := Lib.hid hb17; clear hb17))
      go_wp2_with fail
      go_ret
      have hbe : Below w0.heap.size w0 wr := HPW.out.old.bel
      exact ⟨rfl, hbe.trans ((below_chain (a := wr) (by repeat (with_reducible first | exact HO.out.2 | refine Below.drew ?_ | refine below_drewN ?_ _)) HB17.out).mono hbe.size)⟩
end Go.Proofs.YtmjpdojecdnkjaaGreat
