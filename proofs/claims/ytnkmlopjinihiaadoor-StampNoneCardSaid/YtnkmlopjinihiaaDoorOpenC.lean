/- A case of a sequencer's law, and two whole numbers, as arguments; the table of math/bits as a row lists it. -/
import Derived.Test.YtnkmlopjinihiaaDoorOwn
import Derived.Test.YtnkmlopjinihiaaDoorConfP
import Derived.Test.YtnkmlopjinihiaaDoorProg
import Derived.ProofKit
import Derived.OpenShut
import Derived.ShutString
import Derived.ChangeOld
import Derived.Below
import Derived.Deep.Matrix
import Derived.Deep.Fields
import Derived.Lib.SmallJoins
import Derived.Deep.Slices
import Derived.Test.YtnkmlopjinihiaaDoorGroup
import Derived.Test.YtnkmlopjinihiaaDoorRows
import Derived.Lib.LaidU8
import Derived.Lib.LaidTab
import Derived.MakeChecks
namespace Go.Proofs.YtnkmlopjinihiaaDoor
open Go.RowKit Go.ChangeShapes Go.WideShapes Go.ChangeAt Go.Deep
set_option linter.unusedVariables false

/-- whole numbers of a kind at a slice's address -/
def KAt (kd : IntKind) (w : World) (Bk : Nat → Prop) (A : Option Addr) (xs : List Int) : Prop :=
  ∀ i x, xs[i]? = some x → ∃ b o, A = some ⟨b, o, none⟩ ∧ Bk b ∧ w.cell? ⟨b, o + i, none⟩ = some (.int kd x)
section
variable {H : Type} {enc : TypeId × Value → H} {P : Program} {W : World} {r : Go.Reach} {base b0 : Nat} {held : Bool}
theorem spot_none {w : World} {a : Addr} {v : Value} (h : w.cell? a = some v) : a.spot = none := by
  unfold World.cell? at h
  split at h
  · split at h
    · cases h
    · cases hs : a.spot
      · rfl
      · simp_all
  · cases h
theorem cell_lt {w : World} {a : Addr} {v : Value} (h : w.cell? a = some v) : a.block < w.heap.size := by
  unfold World.cell? at h
  split at h
  · rename_i h1; exact (Array.getElem?_eq_some_iff.1 h1).1
  · cases h
theorem kat_of {a : Addr} {zs : List Int} {k : IntKind} {len : Nat} (hc : ∀ i, i < len → W.cell? (a.add i) = some (.int k (zs.getD i 0))) (hz : len ≤ zs.length) : KAt k W (fun b => b < W.heap.size) (some a) (zs.take len) := by
  intro i x hx
  have hi : i < len := by have := (List.getElem?_eq_some_iff.1 hx).1; simp at this; omega
  have h0 := hc 0 (by omega)
  have hs : a.spot = none := spot_none (a := a) (by simpa [Addr.add] using h0)
  obtain ⟨b, o, s⟩ := a
  obtain rfl : s = none := hs
  have hx2 : zs.getD i 0 = x := by
    rw [List.getElem?_take_of_lt hi] at hx
    rw [List.getD_eq_getElem?_getD, hx]; rfl
  have h1 := hc i hi
  rw [add_lit, hx2] at h1
  exact ⟨b, o, rfl, cell_lt h1, h1⟩
theorem open_kat {t e : TypeId} {k : IntKind} {v : Value} {d : DataW H} {p : List MemPlace} (ht : P.underlying t = some (.slice e)) (he : P.underlying e = some (.int k)) (hc : P.cellsOf e = 1)
    (hv : Value.okWide P W r b0 t v) (h : DataW.Trod enc P W base (fun _ => true) held t v d p) :
    ∃ A xs cap, v = .slice A xs.length cap ∧ KAt k W (fun b => b < W.heap.size) A xs ∧ (∀ x ∈ xs, (Lit.int k x).wf = true) ∧ xs.length ≤ maxLen := by
  obtain ⟨A0, l0, c0, rfl⟩ := okWide_slice ht hv
  obtain ⟨fuel, hf⟩ := h
  rcases open_ints ht he hc hf with ⟨hcs, _⟩ | ⟨a, len, cap, zs, hcs, _, hl, hm, hz, _, hcell, hwz⟩
  · simp [Value.cells] at hcs
    obtain ⟨rfl, rfl, rfl⟩ := hcs
    exact ⟨none, [], 0, rfl, fun i x hx => by simp at hx, fun x hx => by simp at hx, by simp⟩
  · simp [Value.cells] at hcs
    obtain ⟨rfl, rfl, rfl⟩ := hcs
    rw [if_pos rfl] at hz
    have hlen : (zs.take l0).length = l0 := by rw [List.length_take]; omega
    exact ⟨some a, zs.take l0, c0, by rw [hlen], kat_of (fun i hi => hcell i (by omega)) (by omega), fun x hx => hwz x (List.mem_of_mem_take hx), by omega⟩
/-- lists of whole numbers -/
theorem open_up {t e q : TypeId} {v : Value} {y : DataW H × List MemPlace} {fuel : Nat} (ht : P.underlying t = some (.slice e)) (he : P.underlying e = some (.slice q)) (hq : P.underlying q = some (.int .i64)) (ce : P.cellsOf e = 1) (cq : P.cellsOf q = 1)
    (hf : DataW.trod enc P W base (fun _ => true) held fuel t [v] = some y) :
    ∃ A up c, v = .slice A up.length c ∧ UpAt W (fun b => b < W.heap.size) A up ∧ up.length ≤ maxLen ∧ (∀ l ∈ up, l.length ≤ maxLen) ∧ ∀ l ∈ up, ∀ x ∈ l, (Lit.int .i64 x).wf = true := by
  rcases open_int_rows ht he hq ce cq hf with ⟨hcs, _⟩ | ⟨a, len, cap, A, L, C, Z, hcs, _, hl, hm, _, hr⟩
  · obtain rfl : v = .slice none 0 0 := by simpa using hcs
    exact ⟨none, [], 0, rfl, fun i l hx => by simp at hx, by simp, fun l hl => by simp at hl, fun l hl => by simp at hl⟩
  · obtain rfl : v = .slice (some a) len cap := by simpa using hcs
    have hup : ((List.range len).map fun r => (Z r).take (L r)).length = len := by simp
    have hel : ∀ (i : Nat) l, ((List.range len).map fun r => (Z r).take (L r))[i]? = some l → i < len ∧ l = (Z i).take (L i) := by
      intro i l h
      have hi : i < len := by have := (List.getElem?_eq_some_iff.1 h).1; simpa using this
      rw [List.getElem?_map, List.getElem?_range hi] at h
      exact ⟨hi, by simpa using h.symm⟩
    have hlen : ∀ i, i < len → ((Z i).take (L i)).length = L i := by
      intro i hi
      obtain ⟨_, h1, _, h3, _⟩ := hr i (by omega)
      rw [List.length_take]; omega
    refine ⟨some a, (List.range len).map fun r => (Z r).take (L r), cap, by rw [hup], ?_, by rw [hup]; omega, ?_, ?_⟩
    · intro i l h
      obtain ⟨hi, rfl⟩ := hel i l h
      obtain ⟨h0, h1, h2, h3, h4, h5, h6⟩ := hr i (by omega)
      have g0 := (hr 0 (by omega)).1
      have hs : a.spot = none := spot_none (a := a) (by simpa [Addr.add] using g0)
      obtain ⟨b, o, s⟩ := a
      obtain rfl : s = none := hs
      rw [add_lit] at h0
      refine ⟨b, o, A i, C i, rfl, cell_lt h0, by rw [hlen i hi]; exact h0, ?_, by rw [hlen i hi]; exact h1⟩
      intro j x hx
      have hj : j < L i := by have := (List.getElem?_eq_some_iff.1 hx).1; rw [hlen i hi] at this; exact this
      cases hA : A i with
      | none => have := h5 hA; omega
      | some a' => exact (kat_of (k := .i64) (len := L i) (fun c hc => (h6 a' hA).2 c (by omega)) (by omega)) j x hx
    · intro l hl2
      obtain ⟨i, hi⟩ := List.getElem?_of_mem hl2
      obtain ⟨hi2, rfl⟩ := hel i l hi
      have := (hr i (by omega)).2.1
      have := (hr i (by omega)).2.2.1
      rw [hlen i hi2]; omega
    · intro l hl2 x hx
      obtain ⟨i, hi⟩ := List.getElem?_of_mem hl2
      obtain ⟨hi2, rfl⟩ := hel i l hi
      exact (hr i (by omega)).2.2.2.2.1 x (List.mem_of_mem_take hx)
end
theorem array6 {α : Type} {cs : Array α} (h : cs.size = 6) : ∃ c0 c1 c2 c3 c4 c5, cs = #[c0, c1, c2, c3, c4, c5] := by
  obtain ⟨l⟩ := cs
  match l, h with
  | [c0, c1, c2, c3, c4, c5], _ => exact ⟨c0, c1, c2, c3, c4, c5, rfl⟩
section
variable {H : Type} {enc : TypeId × Value → H} {P : Program} {w : World} {base : Nat} {spare : Nat → Bool} {held : Bool}
theorem trod_struct6 {t : TypeId} {f0 f1 f2 f3 f4 f5 : Field} {fuel : Nat} {cs : List Value} {x : DataW H × List MemPlace} (ht : P.underlying t = some (.struct #[f0, f1, f2, f3, f4, f5])) (h : DataW.trod enc P w base spare held fuel t cs = some x) :
    ∃ y0 y1 y2 y3 y4 y5 n, DataW.trod enc P w base spare held n f0.type ((cs.drop f0.offset).take (P.cellsOf f0.type)) = some y0 ∧ DataW.trod enc P w base spare held n f1.type ((cs.drop f1.offset).take (P.cellsOf f1.type)) = some y1 ∧ DataW.trod enc P w base spare held n f2.type ((cs.drop f2.offset).take (P.cellsOf f2.type)) = some y2 ∧ DataW.trod enc P w base spare held n f3.type ((cs.drop f3.offset).take (P.cellsOf f3.type)) = some y3 ∧ DataW.trod enc P w base spare held n f4.type ((cs.drop f4.offset).take (P.cellsOf f4.type)) = some y4 ∧ DataW.trod enc P w base spare held n f5.type ((cs.drop f5.offset).take (P.cellsOf f5.type)) = some y5 := by
  obtain ⟨xs, n, _, rfl, hl, hlen, hf⟩ := DataW.trod_struct ht h
  match xs, hlen with
  | [y0, y1, y2, y3, y4, y5], _ => exact ⟨y0, y1, y2, y3, y4, y5, n, by simpa using hf 0 f0 rfl, by simpa using hf 1 f1 rfl, by simpa using hf 2 f2 rfl, by simpa using hf 3 f3 rfl, by simpa using hf 4 f4 rfl, by simpa using hf 5 f5 rfl⟩
theorem open_agg6 {r : Go.Reach} {b0 : Nat} {t : TypeId} {f0 f1 f2 f3 f4 f5 : Field} {v : Value} {d : DataW H} {p : List MemPlace} (hs : P.underlying t = some (.struct #[f0, f1, f2, f3, f4, f5])) (hone : oneCellFields P #[f0, f1, f2, f3, f4, f5] = true) (hC : P.cellsOf t = 6)
    (hv : Value.okWide P w r b0 t v) (h : DataW.Trod enc P w base spare held t v d p) :
    ∃ (v0 v1 v2 v3 v4 v5 : Value) (y0 y1 y2 y3 y4 y5 : DataW H × List MemPlace) (n : Nat), v = .agg #[v0, v1, v2, v3, v4, v5] ∧ DataW.trod enc P w base spare held n f0.type [v0] = some y0 ∧ DataW.trod enc P w base spare held n f1.type [v1] = some y1 ∧ DataW.trod enc P w base spare held n f2.type [v2] = some y2 ∧ DataW.trod enc P w base spare held n f3.type [v3] = some y3 ∧ DataW.trod enc P w base spare held n f4.type [v4] = some y4 ∧ DataW.trod enc P w base spare held n f5.type [v5] = some y5 := by
  obtain ⟨cs, rfl, hsz⟩ := okWide_struct hs hv
  obtain ⟨c0, c1, c2, c3, c4, c5, rfl⟩ := array6 (hsz.trans hC)
  obtain ⟨fuel, hf⟩ := h
  obtain ⟨y0, y1, y2, y3, y4, y5, n, h0, h1, h2, h3, h4, h5⟩ := trod_struct6 hs hf
  obtain ⟨o0, k0⟩ := hone_of hone 0 f0 rfl
  obtain ⟨o1, k1⟩ := hone_of hone 1 f1 rfl
  obtain ⟨o2, k2⟩ := hone_of hone 2 f2 rfl
  obtain ⟨o3, k3⟩ := hone_of hone 3 f3 rfl
  obtain ⟨o4, k4⟩ := hone_of hone 4 f4 rfl
  obtain ⟨o5, k5⟩ := hone_of hone 5 f5 rfl
  exact ⟨c0, c1, c2, c3, c4, c5, y0, y1, y2, y3, y4, y5, n, rfl, by simpa [Value.cells, o0, k0] using h0, by simpa [Value.cells, o1, k1] using h1, by simpa [Value.cells, o2, k2] using h2, by simpa [Value.cells, o3, k3] using h3, by simpa [Value.cells, o4, k4] using h4, by simpa [Value.cells, o5, k5] using h5⟩
end
/-- a configuration as an argument -/
structure ConfArg (W : World) (v : Value) (c : Cf) (up : List (List Int)) : Prop where
  val : v = .agg c.vs.toArray
  un : c.un = up.length
  upA : UpAt W (fun b => b < W.heap.size) c.ua up
  len : up.length ≤ maxLen
  ll : ∀ l ∈ up, l.length ≤ maxLen
  b0 : -9223372036854775808 ≤ c.variant ∧ c.variant ≤ 9223372036854775807
  b1 : -9223372036854775808 ≤ c.width ∧ c.width ≤ 9223372036854775807
  b2 : -9223372036854775808 ≤ c.cap ∧ c.cap ≤ 9223372036854775807
  b3 : -9223372036854775808 ≤ c.producers ∧ c.producers ≤ 9223372036854775807
  b4 : 0 ≤ c.start ∧ c.start ≤ 18446744073709551615
set_option maxRecDepth 100000 in
theorem open_conf {H : Type} {enc : TypeId × Value → H} {W : World} {r : Go.Reach} {base b0 : Nat} {held : Bool} {v : Value} {d : DataW H} {p : List MemPlace}
    (hv : Value.okWide Tryd.prog W r b0 25 v) (h : DataW.Trod enc Tryd.prog W base (fun _ => true) held 25 v d p) : ∃ c up, ConfArg W v c up := by
  have hs := Tryd.underlying25
  have e6 : Tryd.prog.cellsOf 25 = 6 := by kernel_rfl
  obtain ⟨c0, c1, c2, c3, c4, c5, y0, y1, y2, y3, y4, y5, n, rfl, g0, g1, g2, g3, g4, g5⟩ := open_agg6 hs (by kernel_rfl) e6 hv h
  obtain ⟨x0, hx0, _, w0⟩ := DataW.trod_int Tryd.underlying3 g0
  obtain ⟨x1, hx1, _, w1⟩ := DataW.trod_int Tryd.underlying3 g1
  obtain ⟨x2, hx2, _, w2⟩ := DataW.trod_int Tryd.underlying3 g2
  obtain ⟨x3, hx3, _, w3⟩ := DataW.trod_int Tryd.underlying3 g3
  obtain ⟨x4, hx4, _, w4⟩ := DataW.trod_int Tryd.underlying22 g4
  obtain ⟨A, up, c, hx5, hU, h1, h2, h3⟩ := open_up (v := c5) Tryd.underlying23 Tryd.underlying58 Tryd.underlying3 (by kernel_rfl) (by kernel_rfl) g5
  simp at hx0 hx1 hx2 hx3 hx4
  subst hx0 hx1 hx2 hx3 hx4 hx5
  exact ⟨⟨x0, x1, x2, x3, x4, A, up.length, c⟩, up, rfl, rfl, hU, h1, h2, bounds_i64 w0, bounds_i64 w1, bounds_i64 w2, bounds_i64 w3, bounds_u64 w4⟩
end Go.Proofs.YtnkmlopjinihiaaDoor

namespace Go.Proofs.YtnkmlopjinihiaaDoor
open Go.RowKit Go.ChangeShapes Go.WideShapes Go.ChangeAt Go.Deep
set_option linter.unusedVariables false

/-- rows of whole numbers, one behind the other -/
def DosAt (w : World) (Bk : Nat → Prop) (ks : List IntKind) (A : Option Addr) (ds : List (List Int)) : Prop :=
  ∀ i d, ds[i]? = some d → d.length = ks.length ∧ ∃ b o, A = some ⟨b, o, none⟩ ∧ Bk b ∧ ∀ j k x, ks[j]? = some k → d[j]? = some x → w.cell? ⟨b, o + i * ks.length + j, none⟩ = some (.int k x)
theorem DosAt.below {ks : List IntKind} {w w' : World} {Bk : Nat → Prop} {A : Option Addr} {ds : List (List Int)} {B : Nat} (h : DosAt w Bk ks A ds) (hb : Below B w w') (hB : ∀ b, Bk b → b < B) : DosAt w' Bk ks A ds := by
  intro i d hd
  obtain ⟨hl, b, o, rfl, hbk, hc⟩ := h i d hd
  exact ⟨hl, b, o, rfl, hbk, fun j k x hj hx => (hb.cell (p := ⟨b, _, none⟩) (hB b hbk)).trans (hc j k x hj hx)⟩
theorem DosAt.mono {ks : List IntKind} {w : World} {Bk Bk' : Nat → Prop} {A : Option Addr} {ds : List (List Int)} (h : DosAt w Bk ks A ds) (hk : ∀ b, Bk b → Bk' b) : DosAt w Bk' ks A ds := by
  intro i d hd
  obtain ⟨hl, b, o, rfl, hbk, hc⟩ := h i d hd
  exact ⟨hl, b, o, rfl, hk b hbk, hc⟩
section
variable {H : Type} {enc : TypeId × Value → H} {P : Program} {W : World} {r : Go.Reach} {base b0 : Nat} {held : Bool}
theorem open_dos {t e : TypeId} {fs : Array Field} {ks : List IntKind} {v : Value} {d : DataW H} {p : List MemPlace} (ht : P.underlying t = some (.slice e)) (he : P.underlying e = some (.struct fs)) (hone : oneCellFields P fs = true) (ce : P.cellsOf e = ks.length)
    (hk : ∀ (j : Nat) (k : IntKind), ks[j]? = some k → ∃ f : Field, fs[j]? = some f ∧ P.underlying f.type = some (.int k)) (hpos : 0 < ks.length)
    (hv : Value.okWide P W r b0 t v) (h : DataW.Trod enc P W base (fun _ => true) held t v d p) :
    ∃ A ds cap, v = .slice A ds.length cap ∧ DosAt W (fun b => b < W.heap.size) ks A ds ∧ (∀ d ∈ ds, d.length = ks.length ∧ ∀ (j : Nat) (k : IntKind) (x : Int), ks[j]? = some k → d[j]? = some x → (Lit.int k x).wf = true) ∧ ds.length ≤ maxLen := by
  obtain ⟨A0, l0, c0, rfl⟩ := okWide_slice ht hv
  obtain ⟨fuel, hf⟩ := h
  rcases open_slice ht hf with ⟨hcs, _⟩ | ⟨a, len, cap, m, n, D, Pl, hcs, _, hl, hm, hmm, _, hx⟩
  · simp [Value.cells] at hcs
    obtain ⟨rfl, rfl, rfl⟩ := hcs
    exact ⟨none, [], 0, rfl, fun i x hx => by simp at hx, fun x hx => by simp at hx, by simp⟩
  · simp [Value.cells] at hcs
    obtain ⟨rfl, rfl, rfl⟩ := hcs
    rw [if_pos rfl] at hmm
    have key : ∀ i, i < l0 → ∃ q : List Int, q.length = ks.length ∧ ∀ (j : Nat) (k : IntKind) (x : Int), ks[j]? = some k → q[j]? = some x → (Lit.int k x).wf = true ∧ W.cell? (a.add (i * ks.length + j)) = some (.int k x) := by
      intro i hi
      obtain ⟨cs', h1, h2⟩ := hx i (by omega)
      rw [ce] at h1
      obtain ⟨_, hlen, hcell⟩ := World.cells?_some h1
      obtain ⟨xs, k0, hk0, hxy, _, hxl, hfd⟩ := DataW.trod_struct he h2
      have one : ∀ j, j < ks.length → ∃ x : Int, ∀ k, ks[j]? = some k → (Lit.int k x).wf = true ∧ W.cell? (a.add (i * ks.length + j)) = some (.int k x) := by
        intro j hj
        obtain ⟨f, hf1, hf2⟩ := hk j (ks[j]) (List.getElem?_eq_getElem hj)
        obtain ⟨ho, hc1⟩ := hone_of hone j f hf1
        have hjl : j < cs'.length := by omega
        have g := hfd j f hf1
        rw [ho, hc1] at g
        have e1 : (cs'.drop j).take 1 = [cs'[j]] := by
          rw [List.drop_eq_getElem_cons hjl]; rfl
        rw [e1, List.getElem?_eq_getElem (show j < xs.length by have := (Array.getElem?_eq_some_iff.1 hf1).1; omega)] at g
        obtain ⟨x, hx1, _, hw⟩ := DataW.trod_int hf2 g
        refine ⟨x, fun k hk' => ?_⟩
        have hkk : ks[j] = k := by rw [List.getElem?_eq_getElem hj] at hk'; exact Option.some.inj hk'
        rw [hkk] at hx1 hw
        refine ⟨hw, ?_⟩
        have hcj := hcell j (by omega)
        rw [add_add] at hcj
        rw [hcj, List.getElem?_eq_getElem hjl]
        injection hx1 with hx1
        rw [hx1]
      obtain ⟨F, hF⟩ := choose_lt one
      refine ⟨(List.range ks.length).map F, by simp, fun j k x hj hxx => ?_⟩
      have hjk : j < ks.length := (List.getElem?_eq_some_iff.1 hj).1
      rw [List.getElem?_map, List.getElem?_range hjk] at hxx
      obtain rfl : F j = x := by simpa using hxx
      exact hF j hjk k hj
    obtain ⟨Q, hQ⟩ := choose_lt key
    have hql : ((List.range l0).map Q).length = l0 := by simp
    have hel : ∀ (i : Nat) d, ((List.range l0).map Q)[i]? = some d → i < l0 ∧ d = Q i := by
      intro i d h
      have hi : i < l0 := by have := (List.getElem?_eq_some_iff.1 h).1; simpa using this
      rw [List.getElem?_map, List.getElem?_range hi] at h
      exact ⟨hi, by simpa using h.symm⟩
    refine ⟨some a, (List.range l0).map Q, c0, by rw [hql], ?_, ?_, by omega⟩
    · intro i d hd
      obtain ⟨hi, rfl⟩ := hel i d hd
      obtain ⟨hq1, hq2⟩ := hQ i hi
      refine ⟨hq1, ?_⟩
      have hk0 := List.getElem?_eq_getElem hpos
      have hx0 := List.getElem?_eq_getElem (l := Q i) (i := 0) (by omega)
      have hc0 := (hq2 0 _ _ hk0 hx0).2
      obtain ⟨hp1, hp2⟩ := hQ 0 (by omega)
      have hs : a.spot = none := by
        have h00 := (hp2 0 _ _ hk0 (List.getElem?_eq_getElem (l := Q 0) (i := 0) (by omega))).2
        exact spot_none (a := a) (by simpa [Addr.add] using h00)
      obtain ⟨b, o, s⟩ := a
      obtain rfl : s = none := hs
      have hb0 : b < W.heap.size := by have := cell_lt hc0; rw [add_lit] at this; exact this
      refine ⟨b, o, rfl, hb0, fun j k x hj hxx => ?_⟩
      have := (hq2 j k x hj hxx).2
      rw [add_lit] at this
      rw [Nat.add_assoc]
      exact this
    · intro d hd
      obtain ⟨i, hi⟩ := List.getElem?_of_mem hd
      obtain ⟨hi2, rfl⟩ := hel i d hi
      obtain ⟨hq1, hq2⟩ := hQ i hi2
      exact ⟨hq1, fun j k x hj hxx => (hq2 j k x hj hxx).1⟩
end
end Go.Proofs.YtnkmlopjinihiaaDoor

namespace Go.Proofs.YtnkmlopjinihiaaDoor
open Go Go.RowKit Go.Lib
open Go.ChangeShapes Go.WideShapes Go.ChangeAt Go.Deep
set_option linter.unusedVariables false
set_option maxHeartbeats 400000
set_option maxRecDepth 100000
theorem array5 {α : Type} {cs : Array α} (h : cs.size = 5) : ∃ c0 c1 c2 c3 c4, cs = #[c0, c1, c2, c3, c4] := by
  obtain ⟨l⟩ := cs
  match l, h with
  | [c0, c1, c2, c3, c4], _ => exact ⟨c0, c1, c2, c3, c4, rfl⟩
theorem array2 {α : Type} {cs : Array α} (h : cs.size = 2) : ∃ c0 c1, cs = #[c0, c1] := by
  obtain ⟨l⟩ := cs
  match l, h with
  | [c0, c1], _ => exact ⟨c0, c1, rfl⟩
section
variable {H : Type} {enc : TypeId × Value → H} {P : Program} {w : World} {base : Nat} {spare : Nat → Bool} {held : Bool}
theorem open_agg5 {r : Go.Reach} {b0 : Nat} {t : TypeId} {f0 f1 f2 f3 f4 : Field} {v : Value} {d : DataW H} {p : List MemPlace} (hs : P.underlying t = some (.struct #[f0, f1, f2, f3, f4])) (hone : oneCellFields P #[f0, f1, f2, f3, f4] = true) (hC : P.cellsOf t = 5)
    (hv : Value.okWide P w r b0 t v) (h : DataW.Trod enc P w base spare held t v d p) :
    ∃ (v0 v1 v2 v3 v4 : Value) (y0 y1 y2 y3 y4 : DataW H × List MemPlace) (n : Nat), v = .agg #[v0, v1, v2, v3, v4] ∧ DataW.trod enc P w base spare held n f0.type [v0] = some y0 ∧ DataW.trod enc P w base spare held n f1.type [v1] = some y1 ∧ DataW.trod enc P w base spare held n f2.type [v2] = some y2 ∧ DataW.trod enc P w base spare held n f3.type [v3] = some y3 ∧ DataW.trod enc P w base spare held n f4.type [v4] = some y4 := by
  obtain ⟨cs, rfl, hsz⟩ := okWide_struct hs hv
  obtain ⟨c0, c1, c2, c3, c4, rfl⟩ := array5 (hsz.trans hC)
  obtain ⟨fuel, hf⟩ := h
  obtain ⟨xs, n, _, hx9, hl, hlen, hff⟩ := DataW.trod_struct hs hf
  obtain ⟨o0, k0⟩ := hone_of hone 0 f0 rfl
  obtain ⟨o1, k1⟩ := hone_of hone 1 f1 rfl
  obtain ⟨o2, k2⟩ := hone_of hone 2 f2 rfl
  obtain ⟨o3, k3⟩ := hone_of hone 3 f3 rfl
  obtain ⟨o4, k4⟩ := hone_of hone 4 f4 rfl
  match xs, hlen with
  | [y0, y1, y2, y3, y4], _ =>
    exact ⟨c0, c1, c2, c3, c4, y0, y1, y2, y3, y4, n, rfl, by simpa [Value.cells, o0, k0] using hff 0 f0 rfl, by simpa [Value.cells, o1, k1] using hff 1 f1 rfl, by simpa [Value.cells, o2, k2] using hff 2 f2 rfl, by simpa [Value.cells, o3, k3] using hff 3 f3 rfl, by simpa [Value.cells, o4, k4] using hff 4 f4 rfl⟩
theorem open_two {r : Go.Reach} {b0 : Nat} {t e : TypeId} {v : Value} {d : DataW H} {p : List MemPlace} (ht : P.underlying t = some (.array 2 e)) (he : P.underlying e = some (.int .i64)) (hce : P.cellsOf e = 1) (hC : P.cellsOf t = 2)
    (hv : Value.okWide P w r b0 t v) (h : DataW.Trod enc P w base spare held t v d p) :
    ∃ x y : Int, v = .agg #[.int .i64 x, .int .i64 y] := by
  simp only [Value.okWide, ht] at hv
  obtain ⟨cs, rfl, hsz, _⟩ := hv
  obtain ⟨c0, c1, rfl⟩ := array2 (hsz.trans hC)
  obtain ⟨fuel, hf⟩ := h
  cases fuel with
  | zero => simp [DataW.trod] at hf
  | succ fuel =>
    simp only [DataW.trod, ht] at hf
    split at hf
    · obtain ⟨xs, hm, hx⟩ := Option.map_eq_some_iff.1 hf
      obtain ⟨b0, _, h0⟩ := mapM_at hm 0 0 (by simp)
      obtain ⟨b1, _, h1⟩ := mapM_at hm 1 1 (by simp)
      simp only [hce, Value.cells] at h0 h1
      obtain ⟨z0, e0, _, _⟩ := DataW.trod_int he h0
      obtain ⟨z1, e1, _, _⟩ := DataW.trod_int he h1
      simp at e0 e1
      subst e0 e1
      exact ⟨z0, z1, rfl⟩
    · cases hf
end
def laidTab : List (String × DataW Unit) := [("math/bits.deBruijn64tab", Rows.laid_math_bits_deBruijn64tab)]
theorem tab_of_laid {W : World} (h : laidMetH Tryd.prog laidTab W) : 1 < W.heap.size ∧ TabG 1 W := by
  rw [Go.MakeChecks.laidMetH_plain Tryd.prog laidTab W (by kernel_rfl)] at h
  have ht : TabIs Tryd.prog W "math/bits.deBruijn64tab" .u8 (Lib.deBruijn64tab.map fun (n : Nat) => (n : Int)) :=
    tabIs_of_head (rest := []) (g := 1) (t := 227) (e := 5) (n := 64) (by kernel_rfl) (by kernel_rfl) Tryd.underlying227 Tryd.underlying5 (by kernel_rfl) (by kernel_rfl) h
  unfold TabIs World.var? at ht
  rw [show Tryd.prog.globalNamed "math/bits.deBruijn64tab" = some 1 by kernel_rfl] at ht
  simp only [Option.bind_some] at ht
  split at ht
  · rename_i cs ty sp hh
    obtain rfl := Option.some.inj ht
    refine ⟨(Array.getElem?_eq_some_iff.1 hh).1, fun j hj => ?_⟩
    have hj2 : j < Lib.deBruijn64tab.length := by show j < 64; exact hj
    simp only [World.cell?, hh]
    simp [List.getElem?_map, List.getElem?_eq_getElem hj2, List.getD_eq_getElem?_getD]
  · cases ht
end Go.Proofs.YtnkmlopjinihiaaDoor
