/- Marks that stay: what publishing one position does; a board alone, carried through calls. -/
import Derived.Test.YthnmpndofkgppaaLive17
namespace Go.Proofs.Ythnmpndofkgppaa
open Go.RowKit
set_option linter.unusedVariables false
set_option linter.unusedSimpArgs false
set_option maxHeartbeats 2000000

section
variable {M : Int} {b : BS}
theorem BS.Fit.mlay_eq (h : b.Fit M) (hm : b.hasM = true) (t pos : Int) : ∃ kind, b.mlay t pos = b.lay t kind (b.mcell pos) (b.mround pos) := by
  have hk := (h.marks hm pos).2.2.2
  unfold BS.mlay
  split
  · rename_i h2
    rw [if_pos h2] at hk
    exact ⟨7, by unfold BS.write; rw [if_pos hk]⟩
  · rename_i h2
    rw [if_neg h2] at hk
    exact ⟨2, by unfold BS.store; rw [if_pos hk]⟩
theorem BS.Fit.mlay_l (h : b.Fit M) (hm : b.hasM = true) (t pos : Int) : (b.mlay t pos).l = b.l := by obtain ⟨k, hk⟩ := h.mlay_eq hm t pos; rw [hk]; rfl
theorem BS.Fit.mlay_log (h : b.Fit M) (hm : b.hasM = true) (t pos : Int) : (b.mlay t pos).log.length = b.log.length + 1 := by obtain ⟨k, hk⟩ := h.mlay_eq hm t pos; rw [hk]; simp [BS.lay]
theorem BS.Fit.mlay_hasM (h : b.Fit M) (hm : b.hasM = true) (t pos : Int) : (b.mlay t pos).hasM = true := by unfold BS.hasM; rw [h.mlay_l hm]; exact hm
theorem BS.Fit.marked_mlay (h : b.Fit M) (hm : b.hasM = true) (t pos q : Int) :
    (b.mlay t pos).marked q = if slotI b.l.c.cap q = slotI b.l.c.cap pos then decide (b.mround pos = b.mround q) else b.marked q := by
  obtain ⟨kind, hk⟩ := h.mlay_eq hm t pos
  obtain ⟨e1, h1, _, k1⟩ := h.marks hm pos
  obtain ⟨e2, _, _, _⟩ := h.marks hm q
  have s1 := slotI_bd (x := pos) h.cap
  have s2 := slotI_bd (x := q) h.cap
  obtain ⟨n, hn, hl, _⟩ := h.ok.cell (k := b.mcell pos) (by rw [k1]; split <;> simp)
  have hmm := h.mlay_hasM hm t pos
  unfold BS.marked
  rw [hmm, hm]
  have hc : (b.mlay t pos).mcell q = b.mcell q := by unfold BS.mcell; rw [h.mlay_l hm]
  have hr : (b.mlay t pos).mround q = b.mround q := by unfold BS.mround; rw [h.mlay_l hm]
  rw [hc, hr, hk, at_set (by omega)]
  simp only [Bool.true_and]
  by_cases hs : slotI b.l.c.cap q = slotI b.l.c.cap pos
  · rw [if_pos hs, if_pos (by rw [e1, e2, hs])]
  · rw [if_neg hs, if_neg (by rw [e1, e2]; omega)]
theorem BS.Fit.publish1 (h : b.Fit M) (hm : b.hasM = true) (t : Int) {pos : Int} (hp : InM M pos) : publishP M b t { n := 1, from_ := pos } = (true, b.mlay t pos, { n := 1, from_ := pos }) := by
  have ha : addM M pos 0 = pos := by unfold InM at hp; unfold addM; rw [Int.add_zero]; exact Int.emod_eq_of_lt hp.1 hp.2
  unfold publishP
  rw [if_neg (by simp [hm]), if_pos (show FrS.inside { n := 1, from_ := pos } from ⟨Int.le_refl 0, (show (0 : Int) < 1 by decide)⟩), if_neg (show ¬ (0 : Int) + 1 < 1 by decide)]
  show (true, b.mlay t (addM M pos 0), _) = _
  rw [ha]
end
theorem made_marks (c : Cf) : (newBS (mkLay c)).hasM = decide (mkKind c.variant ≠ 0) := by
  show decide (mkKind (mkLay c).c.variant ≠ 0) = _
  rw [mkLay_c]
theorem slot_far {c p far : Int} (hc : Cap2 c) (hp : InM M64 p) (hf : 1 ≤ far ∧ far < c) : slotI c (addM M64 p far) ≠ slotI c p := by
  unfold InM M64 at hp
  rcases hc with rfl | rfl | rfl | rfl | rfl | rfl <;> simp only [slotI, addM, M64] <;> omega
theorem slot_cap {c p : Int} (hc : Cap2 c) (hp : InM M64 p) : slotI c (addM M64 p c) = slotI c p := by
  unfold InM M64 at hp
  rcases hc with rfl | rfl | rfl | rfl | rfl | rfl <;> simp only [slotI, addM, M64] <;> omega
theorem round_cap {c p : Int} (hc : Cap2 c) (hp : InM M64 p) : roundI c (addM M64 p c) ≠ roundI c p := by
  unfold InM M64 at hp
  rcases hc with rfl | rfl | rfl | rfl | rfl | rfl <;> simp only [roundI, addM, M64] <;> omega
/-- A board alone, and a block that nobody turns. -/
structure BW (tB tW tA : TypeId) (kd : IntKind) (M : Int) (tC : TypeId) (cb : Nat) (cs : Array Value) (w0 w : World) (γ : Nat → Nat) (p : Nat) (b : BS) (m : Nat) : Prop where
  old : Old w0 w γ
  brd : BoardAt tB tW tA kd w γ 1 p b
  fit : b.Fit M
  len : b.log.length ≤ m
  cfg : Blk w cb tC cs
  cl : γ cb = 0
section
variable {tB tW tA : TypeId} {kd : IntKind} {M : Int} {tC : TypeId} {cb : Nat} {cs : Array Value} {w0 w w' : World} {γ : Nat → Nat} {p : Nat} {b : BS} {m : Nat}
theorem BW.below (h : BW tB tW tA kd M tC cb cs w0 w γ p b m) (hb : Below w.heap.size w w') : BW tB tW tA kd M tC cb cs w0 w' γ p b m :=
  ⟨h.old.fr (Fr.of_below hb NoId γ) (fun h => h), h.brd.below hb, h.fit, h.len, h.cfg.below hb h.cfg.lt, h.cl⟩
end
theorem bw_publish32 {tC : TypeId} {cb : Nat} {cs : Array Value} {w0 w : World} {γ : Nat → Nat} {p : Nat} {b : BS} {m : Nat} (h : BW 68 36 92 .u32 M32 tC cb cs w0 w γ p b m) (hm : m ≤ 1000000) (hh : b.hasM = true) (t pos : Int) (hp : InM M32 pos) :
    Calls Try.prog 11 #[.pointer (some ⟨p, 0, none⟩), .int .i64 t, .pointer (some ⟨w.heap.size, 0, none⟩)] (w.alloc (.cells (frsCs .u32 [] [{ n := 1, from_ := pos }] []) 41)) fun e w' => e = .returned (.bool true) ∧
      ∃ γ', BW 68 36 92 .u32 M32 tC cb cs w0 w' γ' p (b.mlay t pos) (m + 1) := by
  obtain ⟨γ5, hO5, hBF, hl5⟩ := bf_make h.old h.brd 41 { n := 1, from_ := pos }
  have hq := mpublish32 _ _ _ _ _ _ _ hBF h.fit (by have := h.len; omega) t (show (1 : Int) ≤ _ by decide)
  rw [h.fit.publish1 hh t hp] at hq
  refine hq.mono ?_
  rintro e w' ⟨rfl, γ', hb'⟩
  have hfr := hb'.fr
  have hcl5 : γ5 cb = 0 := (hl5 cb h.cfg.lt).trans h.cl
  have n0 : ¬ TwoId (bfP 41 p w.heap.size).id (bfP 41 p w.heap.size).fid 0 := by unfold TwoId; simp [bfP]
  refine ⟨rfl, γ', hO5.fr hfr n0, hb'.brd, h.fit.mlay t hp, by rw [h.fit.mlay_log hh]; have := h.len; omega, hfr.block_ (h.cfg.alloc _) (by rw [hcl5]; exact n0), (hfr.lab cb (h.cfg.alloc _).lt).trans hcl5⟩
end Go.Proofs.Ythnmpndofkgppaa
