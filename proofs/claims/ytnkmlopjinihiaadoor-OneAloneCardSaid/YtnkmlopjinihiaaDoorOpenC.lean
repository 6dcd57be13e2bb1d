/- A case of a sequencer's law, and two whole numbers, as arguments; the table of math/bits as a row lists it. -/
import Derived.Test.YtnkmlopjinihiaaDoorOpenD
import Derived.Test.YtnkmlopjinihiaaDoorGroup
import Derived.Test.YtnkmlopjinihiaaDoorRows
import Derived.Lib.LaidU8
import Derived.Lib.LaidTab
import Derived.MakeChecks
namespace Go.Proofs.YtnkmlopjinihiaaDoor
open Go Go.RowKit Go.Lib
open Go.ChangeShapes Go.WideShapes Go.ChangeAt Go.Deep
set_option linter.unusedVariables false
set_option maxHeartbeats 400000
set_option maxRecDepth 100000
theorem array5 {α : Type} {cs : Array α} (h : cs.size = 5) : ∃ c0 c1 c2 c3 c4, cs = #[c0, c1, c2, c3, c4] := by
  obtain ⟨l⟩ := cs
  match l, h with
  | [c0, c1, c2, c3, c4], _ => exact ⟨c0, c1, c2, c3, c4, rfl⟩
theorem array2 {α : Type} {cs : Array α} (h : cs.size = 2) : ∃ c0 c1, cs = #[c0, c1] := by
  obtain ⟨l⟩ := cs
  match l, h with
  | [c0, c1], _ => exact ⟨c0, c1, rfl⟩
section
variable {H : Type} {enc : TypeId × Value → H} {P : Program} {w : World} {base : Nat} {spare : Nat → Bool} {held : Bool}
theorem open_agg5 {r : Go.Reach} {b0 : Nat} {t : TypeId} {f0 f1 f2 f3 f4 : Field} {v : Value} {d : DataW H} {p : List MemPlace} (hs : P.underlying t = some (.struct #[f0, f1, f2, f3, f4])) (hone : oneCellFields P #[f0, f1, f2, f3, f4] = true) (hC : P.cellsOf t = 5)
    (hv : Value.okWide P w r b0 t v) (h : DataW.Trod enc P w base spare held t v d p) :
    ∃ (v0 v1 v2 v3 v4 : Value) (y0 y1 y2 y3 y4 : DataW H × List MemPlace) (n : Nat), v = .agg #[v0, v1, v2, v3, v4] ∧ DataW.trod enc P w base spare held n f0.type [v0] = some y0 ∧ DataW.trod enc P w base spare held n f1.type [v1] = some y1 ∧ DataW.trod enc P w base spare held n f2.type [v2] = some y2 ∧ DataW.trod enc P w base spare held n f3.type [v3] = some y3 ∧ DataW.trod enc P w base spare held n f4.type [v4] = some y4 := by
  obtain ⟨cs, rfl, hsz⟩ := okWide_struct hs hv
  obtain ⟨c0, c1, c2, c3, c4, rfl⟩ := array5 (hsz.trans hC)
  obtain ⟨fuel, hf⟩ := h
  obtain ⟨xs, n, _, hx9, hl, hlen, hff⟩ := DataW.trod_struct hs hf
  obtain ⟨o0, k0⟩ := hone_of hone 0 f0 rfl
  obtain ⟨o1, k1⟩ := hone_of hone 1 f1 rfl
  obtain ⟨o2, k2⟩ := hone_of hone 2 f2 rfl
  obtain ⟨o3, k3⟩ := hone_of hone 3 f3 rfl
  obtain ⟨o4, k4⟩ := hone_of hone 4 f4 rfl
  match xs, hlen with
  | [y0, y1, y2, y3, y4], _ =>
    exact ⟨c0, c1, c2, c3, c4, y0, y1, y2, y3, y4, n, rfl, by simpa [Value.cells, o0, k0] using hff 0 f0 rfl, by simpa [Value.cells, o1, k1] using hff 1 f1 rfl, by simpa [Value.cells, o2, k2] using hff 2 f2 rfl, by simpa [Value.cells, o3, k3] using hff 3 f3 rfl, by simpa [Value.cells, o4, k4] using hff 4 f4 rfl⟩
theorem open_two {r : Go.Reach} {b0 : Nat} {t e : TypeId} {v : Value} {d : DataW H} {p : List MemPlace} (ht : P.underlying t = some (.array 2 e)) (he : P.underlying e = some (.int .i64)) (hce : P.cellsOf e = 1) (hC : P.cellsOf t = 2)
    (hv : Value.okWide P w r b0 t v) (h : DataW.Trod enc P w base spare held t v d p) :
    ∃ x y : Int, v = .agg #[.int .i64 x, .int .i64 y] := by
  simp only [Value.okWide, ht] at hv
  obtain ⟨cs, rfl, hsz, _⟩ := hv
  obtain ⟨c0, c1, rfl⟩ := array2 (hsz.trans hC)
  obtain ⟨fuel, hf⟩ := h
  cases fuel with
  | zero => simp [DataW.trod] at hf
  | succ fuel =>
    simp only [DataW.trod, ht] at hf
    split at hf
    · obtain ⟨xs, hm, hx⟩ := Option.map_eq_some_iff.1 hf
      obtain ⟨b0, _, h0⟩ := mapM_at hm 0 0 (by simp)
      obtain ⟨b1, _, h1⟩ := mapM_at hm 1 1 (by simp)
      simp only [hce, Value.cells] at h0 h1
      obtain ⟨z0, e0, _, _⟩ := DataW.trod_int he h0
      obtain ⟨z1, e1, _, _⟩ := DataW.trod_int he h1
      simp at e0 e1
      subst e0 e1
      exact ⟨z0, z1, rfl⟩
    · cases hf
end
def laidTab : List (String × DataW Unit) := [("math/bits.deBruijn64tab", Rows.laid_math_bits_deBruijn64tab)]
theorem tab_of_laid {W : World} (h : laidMetH Tryd.prog laidTab W) : 1 < W.heap.size ∧ TabG 1 W := by
  rw [Go.MakeChecks.laidMetH_plain Tryd.prog laidTab W (by kernel_rfl)] at h
  have ht : TabIs Tryd.prog W "math/bits.deBruijn64tab" .u8 (Lib.deBruijn64tab.map fun (n : Nat) => (n : Int)) :=
    tabIs_of_head (rest := []) (g := 1) (t := 227) (e := 5) (n := 64) (by kernel_rfl) (by kernel_rfl) Tryd.underlying227 Tryd.underlying5 (by kernel_rfl) (by kernel_rfl) h
  unfold TabIs World.var? at ht
  rw [show Tryd.prog.globalNamed "math/bits.deBruijn64tab" = some 1 by kernel_rfl] at ht
  simp only [Option.bind_some] at ht
  split at ht
  · rename_i cs ty sp hh
    obtain rfl := Option.some.inj ht
    refine ⟨(Array.getElem?_eq_some_iff.1 hh).1, fun j hj => ?_⟩
    have hj2 : j < Lib.deBruijn64tab.length := by show j < 64; exact hj
    simp only [World.cell?, hh]
    simp [List.getElem?_map, List.getElem?_eq_getElem hj2, List.getD_eq_getElem?_getD]
  · cases ht
end Go.Proofs.YtnkmlopjinihiaaDoor
