/- Plain: what steps of threads come to on a board with a lock: the two counters alone. -/
import Derived.Test.YtnkmlopjinihiaaDoorLocked
namespace Go.Proofs.YtnkmlopjinihiaaDoor
open Go.RowKit
set_option linter.unusedVariables false

/-- Nothing that was there has turned, and all of it is labelled 0. -/
structure Old (w0 w : World) (γ : Nat → Nat) : Prop where
  bel : Below w0.heap.size w0 w
  lab : ∀ b, b < w0.heap.size → γ b = 0
theorem Old.start (w0 : World) : Old w0 w0 (fun _ => 0) := ⟨Below.refl _ _, fun _ _ => rfl⟩
theorem Old.fr {w0 w w' : World} {γ γ' : Nat → Nat} {S : Nat → Prop} (h : Old w0 w γ) (hf : Fr S γ γ' w w') (hs : ¬ S 0) : Old w0 w' γ' :=
  ⟨⟨hf.os.trans h.bel.os, hf.tape.trans h.bel.tape, hf.output.trans h.bel.output, Nat.le_trans h.bel.size hf.size, fun k hk =>
    (hf.block k (Nat.lt_of_lt_of_le hk h.bel.size) (by rw [h.lab k hk]; exact hs)).trans (h.bel.block k hk)⟩,
   fun b hb => (hf.lab b (Nat.lt_of_lt_of_le hb h.bel.size)).trans (h.lab b hb)⟩

/-- a board with a lock: what its two counters are -/
structure LockB (M : Int) (b : BS) (tk sv : Int) : Prop where
  ok : b.Ok M
  variant : b.l.c.variant = 5
  kt : b.l.kind b.l.ticket = 1
  ks : b.l.kind b.l.serving = 1
  ne : b.l.ticket.toNat ≠ b.l.serving.toNat
  tk : b.at_ b.l.ticket = tk
  sv : b.at_ b.l.serving = sv
theorem at_set {b : BS} {i j : Int} {v : Int} (hi : i.toNat < b.cells.length) (t kind : Int) : (b.lay t kind i v).at_ j = if j.toNat = i.toNat then v else b.at_ j := by
  unfold BS.lay BS.at_
  simp only [List.getD_eq_getElem?_getD, List.getElem?_set]
  by_cases h : i.toNat = j.toNat
  · rw [if_pos h, if_pos h.symm, if_pos hi]; rfl
  · rw [if_neg h, if_neg (fun e => h e.symm)]
section
variable {M : Int} {b : BS} {tk sv : Int}
theorem LockB.look (h : LockB M b tk sv) (t kind k : Int) : LockB M (b.look t kind k) tk sv := ⟨h.ok.look _ _ _, h.variant, h.kt, h.ks, h.ne, h.tk, h.sv⟩
theorem LockB.layT (h : LockB M b tk sv) (t kind : Int) {v : Int} (hv : InM M v) : LockB M (b.lay t kind b.l.ticket v) v sv := by
  obtain ⟨n, hn, hl, _⟩ := h.ok.cell (.inl h.kt)
  have hl2 : b.l.ticket.toNat < b.cells.length := by omega
  refine ⟨h.ok.lay _ _ _ hv, h.variant, h.kt, h.ks, h.ne, ?_, ?_⟩
  · show (b.lay t kind b.l.ticket v).at_ b.l.ticket = v
    rw [at_set hl2, if_pos rfl]
  · show (b.lay t kind b.l.ticket v).at_ b.l.serving = sv
    rw [at_set hl2, if_neg (fun e => h.ne e.symm)]; exact h.sv
theorem LockB.layS (h : LockB M b tk sv) (t kind : Int) {v : Int} (hv : InM M v) : LockB M (b.lay t kind b.l.serving v) tk v := by
  obtain ⟨n, hn, hl, _⟩ := h.ok.cell (.inl h.ks)
  have hl2 : b.l.serving.toNat < b.cells.length := by omega
  refine ⟨h.ok.lay _ _ _ hv, h.variant, h.kt, h.ks, h.ne, ?_, ?_⟩
  · show (b.lay t kind b.l.serving v).at_ b.l.ticket = tk
    rw [at_set hl2, if_neg h.ne]; exact h.tk
  · show (b.lay t kind b.l.serving v).at_ b.l.serving = v
    rw [at_set hl2, if_pos rfl]
theorem LockB.enter0 (h : LockB M b tk sv) (hM : M = M32 ∨ M = M64) (t own : Int) : ∃ b', enterP M b t 0 own = (false, b', 1, tk) ∧ LockB M b' (addM M tk 1) sv ∧ b'.log.length = b.log.length + 1 := by
  have hi : ∀ x, InM M (addM M x 1) := fun x => by rcases hM with rfl | rfl <;> first | exact addM_in32 _ _ | exact addM_in64 _ _
  refine ⟨b.lay t 3 b.l.ticket (addM M tk 1), ?_, h.layT t 3 (hi tk), by simp [BS.lay]⟩
  unfold enterP BS.add
  rw [if_neg (fun hn => hn h.variant), if_pos rfl, if_pos h.kt, h.tk]
theorem LockB.enter1 (h : LockB M b tk sv) (t pc own : Int) (hpc : pc ≠ 0) : ∃ b', enterP M b t pc own = (if sv = own then (true, b', 2, own) else (false, b', pc, own)) ∧ LockB M b' tk sv ∧ b'.log.length = b.log.length + 1 := by
  refine ⟨b.look t 1 b.l.serving, ?_, h.look _ _ _, by simp [BS.look, BS.note]⟩
  unfold enterP BS.load
  rw [if_neg (fun hn => hn h.variant), if_neg hpc, if_pos h.ks, h.sv]
theorem LockB.leave (h : LockB M b tk sv) (hM : M = M32 ∨ M = M64) (t : Int) : LockB M (leaveP M b t) tk (addM M sv 1) ∧ (leaveP M b t).log.length = b.log.length + 1 := by
  have hi : ∀ x, InM M (addM M x 1) := fun x => by rcases hM with rfl | rfl <;> first | exact addM_in32 _ _ | exact addM_in64 _ _
  unfold leaveP BS.add
  rw [if_pos h.variant, if_pos h.ks, h.sv]
  exact ⟨h.layS t 3 (hi sv), by simp [BS.lay]⟩
theorem LockB.waiting (h : LockB M b tk sv) : waitingP M b = difM M tk sv := by unfold waitingP; rw [if_pos h.variant, h.tk, h.sv]
end
set_option maxHeartbeats 1000000 in
theorem newBS_lock (c : Cf) (hv : c.variant = 5) (hun : 1 ≤ c.un ∧ c.un ≤ 6) (hc : Cap2 c.cap) : LockB (MW c.width) (newBS (mkLay c)) 0 0 := by
  have hm : mkLay c = ⟨c, -1, -1, c.un, c.un + 1, c.un + 2, c.un + 3, c.un + 3 + c.cap, c.un + 3 + c.cap + c.cap⟩ := by
    unfold mkLay; rw [if_neg (by omega), if_pos hv]
  have hb := hc.bd
  have ho := newBS_ok (l := mkLay c) (mkLay_bd hun.2 hc) (by rw [mkLay_c]; exact hc) (by have := mkLay_cells hc; rw [mkLay_c]; exact this)
  rw [mkLay_c] at ho
  rw [hm] at ho ⊢
  have hat : ∀ k : Int, 0 ≤ k → k < (c.un : Int) + 3 + c.cap → (newBS ⟨c, -1, -1, c.un, c.un + 1, c.un + 2, c.un + 3, c.un + 3 + c.cap, c.un + 3 + c.cap + c.cap⟩).at_ k = Lay.first ⟨c, -1, -1, c.un, c.un + 1, c.un + 2, c.un + 3, c.un + 3 + c.cap, c.un + 3 + c.cap + c.cap⟩ k := by
    intro k h0 h1
    have := newBS_at ⟨c, -1, -1, c.un, c.un + 1, c.un + 2, c.un + 3, c.un + 3 + c.cap, c.un + 3 + c.cap + c.cap⟩ k.toNat (by show ((k.toNat : Nat) : Int) < (c.un : Int) + 3 + c.cap; omega)
    unfold BS.at_
    rw [List.getD_eq_getElem?_getD, this]
    show Lay.first _ ((k.toNat : Nat) : Int) = _
    rw [show ((k.toNat : Nat) : Int) = k by omega]
  have hk : ∀ k : Int, 0 ≤ k → k < (c.un : Int) + 2 → Lay.kind ⟨c, -1, -1, c.un, c.un + 1, c.un + 2, c.un + 3, c.un + 3 + c.cap, c.un + 3 + c.cap + c.cap⟩ k = 1 := by
    intro k h0 h1
    unfold Lay.kind; dsimp only; rw [if_neg (by omega), if_neg (by omega), if_neg (by omega)]
  refine ⟨ho, hv, ?_, ?_, ?_, ?_, ?_⟩
  · exact hk (c.un : Int) (by omega) (by omega)
  · exact hk ((c.un : Int) + 1) (by omega) (by omega)
  · show ((c.un : Int)).toNat ≠ ((c.un : Int) + 1).toNat; omega
  · show BS.at_ _ (c.un : Int) = 0
    rw [hat _ (by omega) (by omega)]; unfold Lay.first; rw [if_pos (by dsimp only; omega)]
  · show BS.at_ _ ((c.un : Int) + 1) = 0
    rw [hat _ (by omega) (by omega)]; unfold Lay.first; rw [if_pos (by dsimp only; omega)]
end Go.Proofs.YtnkmlopjinihiaaDoor
