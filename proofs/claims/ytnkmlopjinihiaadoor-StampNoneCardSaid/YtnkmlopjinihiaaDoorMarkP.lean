/- Plain: marks of positions on a board. No program, no memory. -/
import Derived.Test.YtnkmlopjinihiaaDoorFrame
namespace Go.Proofs.YtnkmlopjinihiaaDoor
open Go.RowKit
set_option linter.unusedVariables false

def mkKind (v : Int) : Int := if v = 5 then 2 else if v = 2 ∨ v = 3 then 1 else 0
def BS.hasM (b : BS) : Bool := decide (mkKind b.l.c.variant ≠ 0)
def BS.mcell (b : BS) (pos : Int) : Int := b.l.mark (slotI b.l.c.cap pos)
def BS.mround (b : BS) (pos : Int) : Int := roundI b.l.c.cap pos
def BS.mlook (b : BS) (t pos : Int) : Bool × BS :=
  if mkKind b.l.c.variant = 2 then (decide ((b.read t (b.mcell pos)).1 = b.mround pos), (b.read t (b.mcell pos)).2) else (decide ((b.load t (b.mcell pos)).1 = b.mround pos), (b.load t (b.mcell pos)).2)
def BS.mlay (b : BS) (t pos : Int) : BS := if mkKind b.l.c.variant = 2 then b.write t (b.mcell pos) (b.mround pos) else b.store t (b.mcell pos) (b.mround pos)
def BS.marked (b : BS) (pos : Int) : Bool := b.hasM && decide (b.at_ (b.mcell pos) = b.mround pos)
def FrS.inside (f : FrS) : Prop := 0 ≤ f.i ∧ f.i < f.n
instance (f : FrS) : Decidable f.inside := by unfold FrS.inside; infer_instance
def publishP (M : Int) (b : BS) (t : Int) (f : FrS) : Bool × BS × FrS :=
  if b.hasM = false then (true, b, f)
  else if f.inside then (if f.i + 1 < f.n then (false, b.mlay t (addM M f.from_ f.i), { f with i := f.i + 1 }) else (true, b.mlay t (addM M f.from_ f.i), { f with i := 0 }))
  else (true, b, { f with i := 0 })
def seekP (M : Int) (b : BS) (t : Int) (f : FrS) : Bool × BS × FrS :=
  if b.hasM = false then (true, b, f)
  else if (b.mlook t f.val).1 then (false, (b.mlook t f.val).2, { f with val := addM M f.val 1 }) else (true, (b.mlook t f.val).2, f)
/-- a board that was made for a configuration -/
structure BS.Fit (M : Int) (b : BS) : Prop where
  ok : b.Ok M
  lay : b.l = mkLay b.l.c
  cap : Cap2 b.l.c.cap
  va : 1 ≤ b.l.c.variant ∧ b.l.c.variant ≤ 5
  un : 1 ≤ b.l.c.un ∧ b.l.c.un ≤ 6
  wd : MW b.l.c.width = M
theorem BS.Fit.same {M : Int} {b b' : BS} (h : b.Fit M) (hl : b'.l = b.l) (ho : b'.Ok M) : b'.Fit M := by
  refine ⟨ho, ?_, ?_, ?_, ?_, ?_⟩ <;> rw [hl]
  · exact h.lay
  · exact h.cap
  · exact h.va
  · exact h.un
  · exact h.wd
section
variable {M : Int} {b : BS}
theorem BS.Fit.note (h : b.Fit M) (t kind cell old new : Int) : (b.note t kind cell old new).Fit M := h.same rfl (h.ok.note _ _ _ _ _)
theorem BS.Fit.look (h : b.Fit M) (t kind cell : Int) : (b.look t kind cell).Fit M := h.note _ _ _ _ _
theorem BS.Fit.lay_ (h : b.Fit M) (t kind cell : Int) {v : Int} (hv : InM M v) : (b.lay t kind cell v).Fit M := h.same rfl (h.ok.lay _ _ _ hv)
theorem BS.Fit.load (h : b.Fit M) (t k : Int) : (b.load t k).2.Fit M := by
  unfold BS.load; split
  · exact h.look _ _ _
  · exact h
theorem BS.Fit.read (h : b.Fit M) (t k : Int) : (b.read t k).2.Fit M := by
  unfold BS.read; split
  · exact h.look _ _ _
  · exact h
theorem BS.Fit.store (h : b.Fit M) (t k : Int) {v : Int} (hv : InM M v) : (b.store t k v).Fit M := by
  unfold BS.store; split
  · exact h.lay_ _ _ _ hv
  · exact h
theorem BS.Fit.write (h : b.Fit M) (t k : Int) {v : Int} (hv : InM M v) : (b.write t k v).Fit M := by
  unfold BS.write; split
  · exact h.lay_ _ _ _ hv
  · exact h
theorem BS.Fit.M2 (h : b.Fit M) : M = M32 ∨ M = M64 := by have := h.wd; unfold MW at this; split at this <;> first | exact .inl this.symm | exact .inr this.symm
theorem addM_in {M : Int} (hM : M = M32 ∨ M = M64) (a n : Int) : InM M (addM M a n) := by rcases hM with rfl | rfl <;> first | exact addM_in32 _ _ | exact addM_in64 _ _
theorem cutM_in {M : Int} (hM : M = M32 ∨ M = M64) (a : Int) : InM M (cutM M a) := by rcases hM with rfl | rfl <;> first | exact cutM_in32 _ | exact cutM_in64 _
theorem BS.Fit.add (h : b.Fit M) (t k n : Int) : (b.add M t k n).2.Fit M := by
  unfold BS.add; split
  · exact h.lay_ _ _ _ (addM_in h.M2 _ _)
  · exact h
theorem BS.Fit.swap (h : b.Fit M) (t k old : Int) {v : Int} (hv : InM M v) : (b.swap t k old v).2.Fit M := by
  unfold BS.swap; split
  · split
    · exact h.lay_ _ _ _ hv
    · exact h.look _ _ _
  · exact h
theorem BS.Fit.mround (h : b.Fit M) {pos : Int} (hp : InM M pos) : InM M (b.mround pos) := roundI_in h.cap hp
theorem BS.Fit.mlook (h : b.Fit M) (t pos : Int) : (b.mlook t pos).2.Fit M := by
  unfold BS.mlook; split
  · exact h.read _ _
  · exact h.load _ _
theorem BS.Fit.mlay (h : b.Fit M) (t : Int) {pos : Int} (hp : InM M pos) : (b.mlay t pos).Fit M := by
  unfold BS.mlay; split
  · exact h.write _ _ (h.mround hp)
  · exact h.store _ _ (h.mround hp)
theorem slotI_bd {c x : Int} (hc : Cap2 c) : 0 ≤ slotI c x ∧ slotI c x < c := by have := hc.bd; unfold slotI; exact ⟨Int.emod_nonneg _ (by omega), Int.emod_lt_of_pos _ (by omega)⟩
/-- where the marks stand, and what kind they are of -/
theorem BS.Fit.marks (h : b.Fit M) (hm : b.hasM = true) (pos : Int) : b.mcell pos = b.l.marks + slotI b.l.c.cap pos ∧ 0 ≤ b.l.marks ∧ b.l.slots = b.l.marks + b.l.c.cap ∧ b.l.kind (b.mcell pos) = (if mkKind b.l.c.variant = 2 then 2 else 1) := by
  have hs := slotI_bd (x := pos) h.cap
  have hb := h.cap.bd
  have hu := h.un
  have hv := h.va
  have e1 : b.l = mkLay b.l.c := h.lay
  unfold BS.hasM at hm
  have hv1 : b.l.c.variant ≠ 1 := by rintro h1; rw [h1] at hm; revert hm; decide
  generalize hcc : b.l.c = c at *
  unfold BS.mcell Lay.mark Lay.slotAt
  rw [hcc]
  generalize slotI c.cap pos = s at *
  by_cases h5 : c.variant = 5
  · have e2 : mkLay c = ⟨c, -1, -1, c.un, c.un + 1, c.un + 2, c.un + 3, c.un + 3 + c.cap, c.un + 3 + c.cap + c.cap⟩ := by unfold mkLay; rw [if_neg hv1, if_pos h5]
    rw [e1, e2]
    dsimp only
    rw [if_pos (by omega)]
    refine ⟨rfl, by omega, rfl, ?_⟩
    unfold Lay.kind mkKind; dsimp only; rw [if_neg (by omega), if_neg (by omega), if_pos (by omega), if_pos h5]; rfl
  · have e2 : mkLay c = ⟨c, -1, c.un, -1, -1, -1, c.un + 1, c.un + 1 + c.cap, c.un + 1 + c.cap + c.cap⟩ := by unfold mkLay; rw [if_neg hv1, if_neg h5]
    rw [e1, e2]
    dsimp only
    rw [if_pos (by omega)]
    refine ⟨rfl, by omega, rfl, ?_⟩
    have hk : ¬ mkKind c.variant = 2 := by unfold mkKind; rw [if_neg h5]; split <;> decide
    unfold Lay.kind; dsimp only; rw [if_neg (by omega), if_neg (by omega), if_neg (by omega), if_neg hk]
end
end Go.Proofs.YtnkmlopjinihiaaDoor
