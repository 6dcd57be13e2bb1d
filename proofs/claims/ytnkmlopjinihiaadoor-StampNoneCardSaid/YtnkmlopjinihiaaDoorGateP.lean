/- Plain: a scan of some gates, the least of them, the room there is. No program, no memory. -/
import Derived.Test.YtnkmlopjinihiaaDoorMarkP
namespace Go.Proofs.YtnkmlopjinihiaaDoor
open Go.RowKit
set_option linter.unusedVariables false

/-- what a scan keeps -/
def minP (M : Int) (i v m : Int) : Int := if i = 0 ∨ difM M v m < 0 then v else m
/-- a step of a scan of some cells -/
def scanP (M : Int) (b : BS) (t : Int) (cells : List Int) (f : FrS) : Bool × BS × FrS :=
  if ¬ (0 ≤ f.i ∧ f.i < cells.length) then (true, b, { f with i := 0 })
  else if f.i + 1 < cells.length then (false, (b.load t (cells.getD f.i.toNat 0)).2, { f with min := minP M f.i (b.load t (cells.getD f.i.toNat 0)).1 f.min, i := f.i + 1 })
  else (true, (b.load t (cells.getD f.i.toNat 0)).2, { f with min := minP M f.i (b.load t (cells.getD f.i.toNat 0)).1 f.min, i := 0 })
def fitsP (M cap from_ n least : Int) : Bool := decide (difM M (addM M from_ n) least ≤ cap)
theorem BS.Ok.load_inG {M : Int} {b : BS} (h : b.Ok M) (hM : M = M32 ∨ M = M64) (t k : Int) : InM M (b.load t k).1 := by
  unfold BS.load
  split
  · rename_i h1
    obtain ⟨_, _, _, hi⟩ := h.cell (.inl h1)
    exact hi
  · rcases hM with rfl | rfl <;> simp [InM, M32, M64]
theorem minP_in {M i v m : Int} (h1 : InM M v) (h2 : InM M m) : InM M (minP M i v m) := by unfold minP; split <;> assumption
theorem BS.load_l (b : BS) (t k : Int) : (b.load t k).2.l = b.l := by unfold BS.load; split <;> rfl
theorem BS.load_log (b : BS) (t k : Int) : (b.load t k).2.log.length ≤ b.log.length + 1 := by unfold BS.load; split <;> simp [BS.look, BS.note]
theorem scanP_fit {M : Int} {b : BS} (h : b.Fit M) (t : Int) (cells : List Int) (f : FrS) : (scanP M b t cells f).2.1.Fit M := by
  unfold scanP; split
  · exact h
  · split <;> exact h.load _ _
theorem scanP_log (M : Int) (b : BS) (t : Int) (cells : List Int) (f : FrS) : (scanP M b t cells f).2.1.log.length ≤ b.log.length + 1 := by
  unfold scanP; split
  · exact Nat.le_succ _
  · split <;> exact b.load_log _ _
theorem scanP_l (M : Int) (b : BS) (t : Int) (cells : List Int) (f : FrS) : (scanP M b t cells f).2.1.l = b.l := by
  unfold scanP; split
  · rfl
  · split <;> exact b.load_l _ _
theorem scanP_from (M : Int) (b : BS) (t : Int) (cells : List Int) (f : FrS) : (scanP M b t cells f).2.2.from_ = f.from_ := by
  unfold scanP; split
  · rfl
  · split <;> rfl
theorem scanP_n (M : Int) (b : BS) (t : Int) (cells : List Int) (f : FrS) : (scanP M b t cells f).2.2.n = f.n := by
  unfold scanP; split
  · rfl
  · split <;> rfl
theorem scanP_pc (M : Int) (b : BS) (t : Int) (cells : List Int) (f : FrS) : (scanP M b t cells f).2.2.pc = f.pc := by
  unfold scanP; split
  · rfl
  · split <;> rfl
theorem scanP_min {M : Int} {b : BS} (h : b.Fit M) (t : Int) (cells : List Int) (f : FrS) (hm : InM M f.min) : InM M (scanP M b t cells f).2.2.min := by
  unfold scanP; split
  · exact hm
  · split <;> exact minP_in (h.ok.load_inG h.M2 _ _) hm
end Go.Proofs.YtnkmlopjinihiaaDoor
