/- sakialaw17.published returns true: positions are published on both boards alike. -/
import Derived.Test.YtmjpdojecdnkjaaGreatItsR
import Derived.Test.YtmjpdojecdnkjaaGreatRef17b
import Derived.Test.YtmjpdojecdnkjaaGreatTurnPlays
namespace Go.Proofs.YtmjpdojecdnkjaaGreat
open Go.RowKit
set_option linter.unusedVariables false
set_option linter.unusedSimpArgs false
set_option maxHeartbeats 2000000

theorem BS.store_log (b : BS) (t k v : Int) : (b.store t k v).log.length ≤ b.log.length + 1 := by unfold BS.store; split <;> simp [BS.lay]
theorem BS.write_log (b : BS) (t k v : Int) : (b.write t k v).log.length ≤ b.log.length + 1 := by unfold BS.write; split <;> simp [BS.lay]
theorem BS.read_log (b : BS) (t k : Int) : (b.read t k).2.log.length ≤ b.log.length + 1 := by unfold BS.read; split <;> simp [BS.look, BS.note]
theorem publishP_step {M : Int} {b : BS} (hf : b.Fit M) (t : Int) (f : FrS) : (publishP M b t f).2.1.Fit M ∧ (publishP M b t f).2.1.log.length ≤ b.log.length + 1 ∧
    (publishP M b t f).2.2 = { f with i := (publishP M b t f).2.2.i } ∧ ((publishP M b t f).1 = false → (publishP M b t f).2.2.i = f.i + 1 ∧ f.i + 1 < f.n) := by
  have hl : (b.mlay t (addM M f.from_ f.i)).log.length ≤ b.log.length + 1 := by unfold BS.mlay; split; exact b.write_log _ _ _; exact b.store_log _ _ _
  have hy := hf.mlay t (addM_in hf.M2 f.from_ f.i)
  unfold publishP
  split
  · exact ⟨hf, Nat.le_succ _, rfl, fun h => by cases h⟩
  · split
    · split
      · rename_i h; exact ⟨hy, hl, rfl, fun _ => ⟨rfl, h⟩⟩
      · exact ⟨hy, hl, rfl, fun h => by cases h⟩
    · exact ⟨hf, Nat.le_succ _, rfl, fun h => by cases h⟩
theorem seekP_step {M : Int} {b : BS} (hf : b.Fit M) (t : Int) (f : FrS) (hv : InM M f.val) : (seekP M b t f).2.1.Fit M ∧ (seekP M b t f).2.1.log.length ≤ b.log.length + 1 ∧
    (seekP M b t f).2.2 = { f with val := (seekP M b t f).2.2.val } ∧ InM M (seekP M b t f).2.2.val := by
  have hl : (b.mlook t f.val).2.log.length ≤ b.log.length + 1 := by unfold BS.mlook; split; exact b.read_log _ _; exact b.load_log _ _
  have hy := hf.mlook t f.val
  unfold seekP
  split
  · exact ⟨hf, Nat.le_succ _, rfl, hv⟩
  · split
    · exact ⟨hy, hl, rfl, addM_in hf.M2 _ _⟩
    · exact ⟨hy, hl, rfl, hv⟩
theorem published17_32 (w : World) (γ : Nat → Nat) (p q : Nat) (c0 : Cf) (b0 : BS) (hB : BoardAt 134 31 110 .u32 w γ 1 p b0) (hR : RefAt w γ 4 q c0 b0) (hf : b0.Fit M32) (hlen : b0.log.length ≤ 900000) (hwd : c0.width = 32 ∨ c0.width = 64) (hM : M32 = MW c0.width) (from_ n : Int) (hfrom : InM M32 from_) (hn : 0 ≤ n ∧ n ≤ 8) :
    Calls Tryz.prog 81 #[.pointer (some ⟨p, 0, none⟩), .pointer (some ⟨q, 0, none⟩), .int .u64 from_, .int .i64 n] w fun e w' => e = .returned (.bool true) ∧ ∃ γ' b', BoardAt 134 31 110 .u32 w' γ' 1 p b' ∧ RefAt w' γ' 4 q c0 b' ∧ Fr (TwoId 1 4) γ γ' w w' ∧ b'.Fit M32 ∧ b'.log.length ≤ b0.log.length + 9 := by
  have HU := Lib.hid (inM_u64_32 hfrom)
  have hcu : cutM M32 from_ = from_ := cut_id32 hfrom
  have HOF := Lib.hid (fun W => of32 from_ HU.out W)
  rw [hcu] at HOF
  have HW := Lib.hid (And.intro hwd hM)
  have HFR := Lib.hid hfrom
  have hst := Its.start w γ (TwoId 1 4) [itB 134 31 110 .u32 1 p b0, itR 4 q c0 b0] (by intro x hx; rcases List.mem_cons.1 hx with rfl | hx; exact hB; rcases List.mem_cons.1 hx with rfl | hx; exact hR; cases hx) (by intro x hx; rcases List.mem_cons.1 hx with rfl | hx; exact .inl rfl; rcases List.mem_cons.1 hx with rfl | hx; exact .inr rfl; cases hx) (by intro x hx; rcases List.mem_cons.1 hx with rfl | hx; exact (by decide : (1 : Nat) ≠ 0); rcases List.mem_cons.1 hx with rfl | hx; exact (by decide : (4 : Nat) ≠ 0); cases hx) (by show [1, 4].Nodup; decide)
  obtain ⟨γ1, hst⟩ := hst
  have hb1 := hst.box 2 66 (frsCs .u32 [] [{ n := n, from_ := from_ }] []) (by decide) (by intro x hx; rcases List.mem_cons.1 hx with rfl | hx; exact (by decide : (1 : Nat) ≠ 2); rcases List.mem_cons.1 hx with rfl | hx; exact (by decide : (4 : Nat) ≠ 2); cases hx)
  have hb2 := hb1.box 5 75 (frsCs .u64 [] [{ n := n, from_ := from_ }] []) (by decide) (by intro x hx; rcases List.mem_cons.1 hx with rfl | hx; exact (by decide : (1 : Nat) ≠ 5); rcases List.mem_cons.1 hx with rfl | hx; exact (by decide : (4 : Nat) ≠ 5); rcases List.mem_cons.1 hx with rfl | hx; exact (by decide : (2 : Nat) ≠ 5); cases hx)
  rw [show (w.alloc (.cells (frsCs .u32 [] [{ n := n, from_ := from_ }] []) 66)).heap.size = w.heap.size + 1 by simp] at hb2
  have HB2 := Lib.hid hb2
  clear hB hR hst hb1 hb2 hwd hM hfrom
  have hj11 : (Tryz.prog.info? 75).map (·.size) = some 11 := by kernel_rfl
  have hn0 := hn.1
  have hn8 := hn.2
  have HF0 := Lib.hid (And.intro hf hlen)
  clear hn hf hlen hcu
  go_enter Tryz.func81, Tryz.ntmps81
  go_wp2_with (first
    | (go_at_call 80; refine (HOF.out _).mono ?_; rintro e w1 ⟨rfl, rfl⟩)
    | (refine wpList_store_made2 (by rfl) 75 (.tmp 10) (.tmp 22) (by rfl) _ _ _ _ (frsCs .u64 [] [{ n := n, from_ := from_ }] []) (by rfl) (by rfl) (by rfl) (by simp) (by rfl) (by exact hj11) (by rfl) (by kernel_rfl) ?_))
  clear hj11
  go_loopw [11] (fun i wr => ∃ (k : Nat) (f : FrS) (γ' : Nat → Nat) (b : BS), i = .int .i64 k ∧ k ≤ 8 ∧ f.n = n ∧ f.from_ = from_ ∧ f.i = k ∧ Its w γ (TwoId 1 4) [itB 134 31 110 .u32 1 p b, itR 4 q c0 b, itK 2 w.heap.size 66 (frsCs .u32 [] [f] []), itK 5 (w.heap.size + 1) 75 (frsCs .u64 [] [f] [])] wr γ' ∧ b.Fit M32 ∧ b.log.length ≤ b0.log.length + k) (fun i _ => 9 - (intOf i).toNat)
  case atStart => exact ⟨0, { n := n, from_ := from_ }, _, b0, rfl, by omega, rfl, rfl, rfl, HB2.out, HF0.out.1, by omega⟩
  case round =>
    obtain ⟨k, f, γ2, b, rfl, hk, hfn, hff, hfi, hits, hfit, hlg⟩ := hrel
    have hk70 : decide ((k : Int) < 70) = true := decide_eq_true (by omega)
    have hl9 := HF0.out.2
    have hE := mpublish32 (bfI 66 1 2 p w.heap.size (by decide)) wr γ2 wr γ2 b f (bfI_at hits.g0 hits.g2) hfit (by omega) 1 (by omega)
    have hR := fun w3 γ3 b3 f3 (h3 : Its w γ (TwoId 1 4) [itB 134 31 110 .u32 1 p b3, itR 4 q c0 b, itK 2 w.heap.size 66 (frsCs .u32 [] [f3] []), itK 5 (w.heap.size + 1) 75 (frsCs .u64 [] [f] [])] w3 γ3) => r17Publish w3 γ3 4 q c0 b h3.g1 hfit (by omega) HW.out.1 HW.out.2 1 f (by rw [hff]; exact HFR.out) (by omega)
    have hS := publishP_step hfit 1 f
    obtain ⟨op, n, phase, pc, i, j, from_, min, val, own, da, dn, dc⟩ := f
    dsimp only at hfn hff hfi
    subst hfn hff hfi
    generalize hr : publishP M32 b 1 _ = r at hE hR hS
    obtain ⟨d, b2, op2, n2, ph2, pc2, i2, j2, fr2, mi2, va2, ow2, da2, dn2, dc2⟩ := r
    dsimp only at hE hR hS
    obtain ⟨hS1, hS2, hS3, hS4⟩ := hS
    cases hS3
    unfold FrS.vs at hR
    dsimp only at hR
    have HE := Lib.hid hE
    have HR := Lib.hid hR
    have HS := Lib.hid (And.intro hS1 (And.intro (show b2.log.length ≤ b0.log.length + (k + 1) by omega) hfit))
    have HI := Lib.hid hits
    clear hE hR hr hS1 hS2 hits hfit hl9 hlg
    cases d
    · have hi2 := (hS4 rfl).1
      have hi3 := (hS4 rfl).2
      subst hi2
      clear hS4
      go_wp2_with (first
        | (go_at_call 73
           refine HE.out.mono ?_
           intro e w10 hq
           obtain ⟨rfl, γ10, h10⟩ := HI.out.bf 0 2 (by decide) rfl rfl hq
           obtain ⟨y0, y1, y2, y3, y4, y5, y6, y7, y8, y9, y10⟩ := blk_cells11 h10.g3.1
           have HI10 := Lib.hid h10
           clear hq h10)
        | (go_at_call 138
           refine (HR.out _ _ _ _ HI10.out).mono ?_
           intro e w11 hq
           obtain ⟨rfl, γ11, h11⟩ := HI10.out.rmut 1 rfl hq
           obtain ⟨x0, x1, x2, x3, x4, x5, x6, x7, x8, x9, x10⟩ := blk_cells11 h11.g2.1
           obtain ⟨y0, y1, y2, y3, y4, y5, y6, y7, y8, y9, y10⟩ := blk_cells11 h11.g3.1
           have hz3 := h11.g3.1.frozen
           have hl3 : w.heap.size + 1 < w11.heap.size := h11.g3.1.lt
           have hl2 : w.heap.size < w11.heap.size := h11.g2.1.lt
           have HI11 := Lib.hid h11
           clear hq h11))
      have hp11 := HI11.out.put11 3 5 (w.heap.size + 1) 75 _ (by rfl) rfl (.int .i64 op) (.int .i64 n) (.int .i64 phase) (.int .i64 pc) (.int .i64 ((k : Int) + 1)) (.int .i64 j) (.int .u64 from_) (.int .u64 min) (.int .u64 val) (.int .u64 own) (.slice da dn dc)
      have HP := Lib.hid (hp11.alloc (Obj.cells #[.int .i64 op, .int .i64 n, .int .i64 phase, .int .i64 pc, .int .i64 ((k : Int) + 1), .int .i64 j, .int .u64 from_, .int .u64 min, .int .u64 val, .int .u64 own, .slice da dn dc] 75))
      clear hp11
      go_quiet (fail)
      go_wp2_with fail
      go_round
      case rel => exact ⟨k + 1, ⟨op, n, phase, pc, (k : Int) + 1, j, from_, min, val, own, da, dn, dc⟩, _, b2, by go_num, by omega, rfl, rfl, rfl, HP.out.drewN _, HS.out.1, HS.out.2.1⟩
      case measure => simp only [intOf]; omega
    · clear hS4
      go_wp2_with (first
        | (go_at_call 73
           refine HE.out.mono ?_
           intro e w10 hq
           obtain ⟨rfl, γ10, h10⟩ := HI.out.bf 0 2 (by decide) rfl rfl hq
           obtain ⟨y0, y1, y2, y3, y4, y5, y6, y7, y8, y9, y10⟩ := blk_cells11 h10.g3.1
           have HI10 := Lib.hid h10
           clear hq h10)
        | (go_at_call 138
           refine (HR.out _ _ _ _ HI10.out).mono ?_
           intro e w11 hq
           obtain ⟨rfl, γ11, h11⟩ := HI10.out.rmut 1 rfl hq
           obtain ⟨x0, x1, x2, x3, x4, x5, x6, x7, x8, x9, x10⟩ := blk_cells11 h11.g2.1
           obtain ⟨y0, y1, y2, y3, y4, y5, y6, y7, y8, y9, y10⟩ := blk_cells11 h11.g3.1
           have hz3 := h11.g3.1.frozen
           have hl3 : w.heap.size + 1 < w11.heap.size := h11.g3.1.lt
           have hl2 : w.heap.size < w11.heap.size := h11.g2.1.lt
           have HI11 := Lib.hid h11
           clear hq h11))
      have hp11 := HI11.out.put11 3 5 (w.heap.size + 1) 75 _ (by rfl) rfl (.int .i64 op) (.int .i64 n) (.int .i64 phase) (.int .i64 pc) (.int .i64 i2) (.int .i64 j) (.int .u64 from_) (.int .u64 min) (.int .u64 val) (.int .u64 own) (.slice da dn dc)
      have HP := Lib.hid (hp11.alloc (Obj.cells #[.int .i64 op, .int .i64 n, .int .i64 phase, .int .i64 pc, .int .i64 i2, .int .i64 j, .int .u64 from_, .int .u64 min, .int .u64 val, .int .u64 own, .slice da dn dc] 75))
      clear hp11
      go_quiet (fail)
      go_wp2_with fail
      go_ret
      obtain ⟨γ', hfr, hall⟩ := (HP.out.drewN nq).fin
      exact ⟨rfl, γ', b2, hall (itB 134 31 110 .u32 1 p b2) (by simp), hall (itR 4 q c0 b2) (by simp), hfr, HS.out.1, by have := HS.out.2.1; omega⟩
theorem published17_64 (w : World) (γ : Nat → Nat) (p q : Nat) (c0 : Cf) (b0 : BS) (hB : BoardAt 97 22 110 .u64 w γ 1 p b0) (hR : RefAt w γ 4 q c0 b0) (hf : b0.Fit M64) (hlen : b0.log.length ≤ 900000) (hwd : c0.width = 32 ∨ c0.width = 64) (hM : M64 = MW c0.width) (from_ n : Int) (hfrom : InM M64 from_) (hn : 0 ≤ n ∧ n ≤ 8) :
    Calls Tryz.prog 87 #[.pointer (some ⟨p, 0, none⟩), .pointer (some ⟨q, 0, none⟩), .int .u64 from_, .int .i64 n] w fun e w' => e = .returned (.bool true) ∧ ∃ γ' b', BoardAt 97 22 110 .u64 w' γ' 1 p b' ∧ RefAt w' γ' 4 q c0 b' ∧ Fr (TwoId 1 4) γ γ' w w' ∧ b'.Fit M64 ∧ b'.log.length ≤ b0.log.length + 9 := by
  have HU := Lib.hid (inM_u64_64 hfrom)
  have hcu : cutM M64 from_ = from_ := cut_id64 hfrom
  have HOF := Lib.hid (fun W => of64 from_ HU.out W)
  rw [hcu] at HOF
  have HW := Lib.hid (And.intro hwd hM)
  have HFR := Lib.hid hfrom
  have hst := Its.start w γ (TwoId 1 4) [itB 97 22 110 .u64 1 p b0, itR 4 q c0 b0] (by intro x hx; rcases List.mem_cons.1 hx with rfl | hx; exact hB; rcases List.mem_cons.1 hx with rfl | hx; exact hR; cases hx) (by intro x hx; rcases List.mem_cons.1 hx with rfl | hx; exact .inl rfl; rcases List.mem_cons.1 hx with rfl | hx; exact .inr rfl; cases hx) (by intro x hx; rcases List.mem_cons.1 hx with rfl | hx; exact (by decide : (1 : Nat) ≠ 0); rcases List.mem_cons.1 hx with rfl | hx; exact (by decide : (4 : Nat) ≠ 0); cases hx) (by show [1, 4].Nodup; decide)
  obtain ⟨γ1, hst⟩ := hst
  have hb1 := hst.box 2 85 (frsCs .u64 [] [{ n := n, from_ := from_ }] []) (by decide) (by intro x hx; rcases List.mem_cons.1 hx with rfl | hx; exact (by decide : (1 : Nat) ≠ 2); rcases List.mem_cons.1 hx with rfl | hx; exact (by decide : (4 : Nat) ≠ 2); cases hx)
  have hb2 := hb1.box 5 75 (frsCs .u64 [] [{ n := n, from_ := from_ }] []) (by decide) (by intro x hx; rcases List.mem_cons.1 hx with rfl | hx; exact (by decide : (1 : Nat) ≠ 5); rcases List.mem_cons.1 hx with rfl | hx; exact (by decide : (4 : Nat) ≠ 5); rcases List.mem_cons.1 hx with rfl | hx; exact (by decide : (2 : Nat) ≠ 5); cases hx)
  rw [show (w.alloc (.cells (frsCs .u64 [] [{ n := n, from_ := from_ }] []) 85)).heap.size = w.heap.size + 1 by simp] at hb2
  have HB2 := Lib.hid hb2
  clear hB hR hst hb1 hb2 hwd hM hfrom
  have hj11 : (Tryz.prog.info? 75).map (·.size) = some 11 := by kernel_rfl
  have hn0 := hn.1
  have hn8 := hn.2
  have HF0 := Lib.hid (And.intro hf hlen)
  clear hn hf hlen hcu
  go_enter Tryz.func87, Tryz.ntmps87
  go_wp2_with (first
    | (go_at_call 49; refine (HOF.out _).mono ?_; rintro e w1 ⟨rfl, rfl⟩)
    | (refine wpList_store_made2 (by rfl) 75 (.tmp 10) (.tmp 22) (by rfl) _ _ _ _ (frsCs .u64 [] [{ n := n, from_ := from_ }] []) (by rfl) (by rfl) (by rfl) (by simp) (by rfl) (by exact hj11) (by rfl) (by kernel_rfl) ?_))
  clear hj11
  go_loopw [11] (fun i wr => ∃ (k : Nat) (f : FrS) (γ' : Nat → Nat) (b : BS), i = .int .i64 k ∧ k ≤ 8 ∧ f.n = n ∧ f.from_ = from_ ∧ f.i = k ∧ Its w γ (TwoId 1 4) [itB 97 22 110 .u64 1 p b, itR 4 q c0 b, itK 2 w.heap.size 85 (frsCs .u64 [] [f] []), itK 5 (w.heap.size + 1) 75 (frsCs .u64 [] [f] [])] wr γ' ∧ b.Fit M64 ∧ b.log.length ≤ b0.log.length + k) (fun i _ => 9 - (intOf i).toNat)
  case atStart => exact ⟨0, { n := n, from_ := from_ }, _, b0, rfl, by omega, rfl, rfl, rfl, HB2.out, HF0.out.1, by omega⟩
  case round =>
    obtain ⟨k, f, γ2, b, rfl, hk, hfn, hff, hfi, hits, hfit, hlg⟩ := hrel
    have hk70 : decide ((k : Int) < 70) = true := decide_eq_true (by omega)
    have hl9 := HF0.out.2
    have hE := mpublish64 (bfI 85 1 2 p w.heap.size (by decide)) wr γ2 wr γ2 b f (bfI_at hits.g0 hits.g2) hfit (by omega) 1 (by omega)
    have hR := fun w3 γ3 b3 f3 (h3 : Its w γ (TwoId 1 4) [itB 97 22 110 .u64 1 p b3, itR 4 q c0 b, itK 2 w.heap.size 85 (frsCs .u64 [] [f3] []), itK 5 (w.heap.size + 1) 75 (frsCs .u64 [] [f] [])] w3 γ3) => r17Publish w3 γ3 4 q c0 b h3.g1 hfit (by omega) HW.out.1 HW.out.2 1 f (by rw [hff]; exact HFR.out) (by omega)
    have hS := publishP_step hfit 1 f
    obtain ⟨op, n, phase, pc, i, j, from_, min, val, own, da, dn, dc⟩ := f
    dsimp only at hfn hff hfi
    subst hfn hff hfi
    generalize hr : publishP M64 b 1 _ = r at hE hR hS
    obtain ⟨d, b2, op2, n2, ph2, pc2, i2, j2, fr2, mi2, va2, ow2, da2, dn2, dc2⟩ := r
    dsimp only at hE hR hS
    obtain ⟨hS1, hS2, hS3, hS4⟩ := hS
    cases hS3
    unfold FrS.vs at hR
    dsimp only at hR
    have HE := Lib.hid hE
    have HR := Lib.hid hR
    have HS := Lib.hid (And.intro hS1 (And.intro (show b2.log.length ≤ b0.log.length + (k + 1) by omega) hfit))
    have HI := Lib.hid hits
    clear hE hR hr hS1 hS2 hits hfit hl9 hlg
    cases d
    · have hi2 := (hS4 rfl).1
      have hi3 := (hS4 rfl).2
      subst hi2
      clear hS4
      go_wp2_with (first
        | (go_at_call 143
           refine HE.out.mono ?_
           intro e w10 hq
           obtain ⟨rfl, γ10, h10⟩ := HI.out.bf 0 2 (by decide) rfl rfl hq
           obtain ⟨y0, y1, y2, y3, y4, y5, y6, y7, y8, y9, y10⟩ := blk_cells11 h10.g3.1
           have HI10 := Lib.hid h10
           clear hq h10)
        | (go_at_call 138
           refine (HR.out _ _ _ _ HI10.out).mono ?_
           intro e w11 hq
           obtain ⟨rfl, γ11, h11⟩ := HI10.out.rmut 1 rfl hq
           obtain ⟨x0, x1, x2, x3, x4, x5, x6, x7, x8, x9, x10⟩ := blk_cells11 h11.g2.1
           obtain ⟨y0, y1, y2, y3, y4, y5, y6, y7, y8, y9, y10⟩ := blk_cells11 h11.g3.1
           have hz3 := h11.g3.1.frozen
           have hl3 : w.heap.size + 1 < w11.heap.size := h11.g3.1.lt
           have hl2 : w.heap.size < w11.heap.size := h11.g2.1.lt
           have HI11 := Lib.hid h11
           clear hq h11))
      have hp11 := HI11.out.put11 3 5 (w.heap.size + 1) 75 _ (by rfl) rfl (.int .i64 op) (.int .i64 n) (.int .i64 phase) (.int .i64 pc) (.int .i64 ((k : Int) + 1)) (.int .i64 j) (.int .u64 from_) (.int .u64 min) (.int .u64 val) (.int .u64 own) (.slice da dn dc)
      have HP := Lib.hid (hp11.alloc (Obj.cells #[.int .i64 op, .int .i64 n, .int .i64 phase, .int .i64 pc, .int .i64 ((k : Int) + 1), .int .i64 j, .int .u64 from_, .int .u64 min, .int .u64 val, .int .u64 own, .slice da dn dc] 75))
      clear hp11
      go_quiet (fail)
      go_wp2_with fail
      go_round
      case rel => exact ⟨k + 1, ⟨op, n, phase, pc, (k : Int) + 1, j, from_, min, val, own, da, dn, dc⟩, _, b2, by go_num, by omega, rfl, rfl, rfl, HP.out.drewN _, HS.out.1, HS.out.2.1⟩
      case measure => simp only [intOf]; omega
    · clear hS4
      go_wp2_with (first
        | (go_at_call 143
           refine HE.out.mono ?_
           intro e w10 hq
           obtain ⟨rfl, γ10, h10⟩ := HI.out.bf 0 2 (by decide) rfl rfl hq
           obtain ⟨y0, y1, y2, y3, y4, y5, y6, y7, y8, y9, y10⟩ := blk_cells11 h10.g3.1
           have HI10 := Lib.hid h10
           clear hq h10)
        | (go_at_call 138
           refine (HR.out _ _ _ _ HI10.out).mono ?_
           intro e w11 hq
           obtain ⟨rfl, γ11, h11⟩ := HI10.out.rmut 1 rfl hq
           obtain ⟨x0, x1, x2, x3, x4, x5, x6, x7, x8, x9, x10⟩ := blk_cells11 h11.g2.1
           obtain ⟨y0, y1, y2, y3, y4, y5, y6, y7, y8, y9, y10⟩ := blk_cells11 h11.g3.1
           have hz3 := h11.g3.1.frozen
           have hl3 : w.heap.size + 1 < w11.heap.size := h11.g3.1.lt
           have hl2 : w.heap.size < w11.heap.size := h11.g2.1.lt
           have HI11 := Lib.hid h11
           clear hq h11))
      have hp11 := HI11.out.put11 3 5 (w.heap.size + 1) 75 _ (by rfl) rfl (.int .i64 op) (.int .i64 n) (.int .i64 phase) (.int .i64 pc) (.int .i64 i2) (.int .i64 j) (.int .u64 from_) (.int .u64 min) (.int .u64 val) (.int .u64 own) (.slice da dn dc)
      have HP := Lib.hid (hp11.alloc (Obj.cells #[.int .i64 op, .int .i64 n, .int .i64 phase, .int .i64 pc, .int .i64 i2, .int .i64 j, .int .u64 from_, .int .u64 min, .int .u64 val, .int .u64 own, .slice da dn dc] 75))
      clear hp11
      go_quiet (fail)
      go_wp2_with fail
      go_ret
      obtain ⟨γ', hfr, hall⟩ := (HP.out.drewN nq).fin
      exact ⟨rfl, γ', b2, hall (itB 97 22 110 .u64 1 p b2) (by simp), hall (itR 4 q c0 b2) (by simp), hfr, HS.out.1, by have := HS.out.2.1; omega⟩
end Go.Proofs.YtmjpdojecdnkjaaGreat
