/- Arguments opened: slices of structs whose fields are whole numbers. -/
import Derived.Test.YtnkmlopjinihiaaDoorOpen
import Derived.Deep.Slices
namespace Go.Proofs.YtnkmlopjinihiaaDoor
open Go.RowKit Go.ChangeShapes Go.WideShapes Go.ChangeAt Go.Deep
set_option linter.unusedVariables false

/-- rows of whole numbers, one behind the other -/
def DosAt (w : World) (Bk : Nat → Prop) (ks : List IntKind) (A : Option Addr) (ds : List (List Int)) : Prop :=
  ∀ i d, ds[i]? = some d → d.length = ks.length ∧ ∃ b o, A = some ⟨b, o, none⟩ ∧ Bk b ∧ ∀ j k x, ks[j]? = some k → d[j]? = some x → w.cell? ⟨b, o + i * ks.length + j, none⟩ = some (.int k x)
theorem DosAt.below {ks : List IntKind} {w w' : World} {Bk : Nat → Prop} {A : Option Addr} {ds : List (List Int)} {B : Nat} (h : DosAt w Bk ks A ds) (hb : Below B w w') (hB : ∀ b, Bk b → b < B) : DosAt w' Bk ks A ds := by
  intro i d hd
  obtain ⟨hl, b, o, rfl, hbk, hc⟩ := h i d hd
  exact ⟨hl, b, o, rfl, hbk, fun j k x hj hx => (hb.cell (p := ⟨b, _, none⟩) (hB b hbk)).trans (hc j k x hj hx)⟩
theorem DosAt.mono {ks : List IntKind} {w : World} {Bk Bk' : Nat → Prop} {A : Option Addr} {ds : List (List Int)} (h : DosAt w Bk ks A ds) (hk : ∀ b, Bk b → Bk' b) : DosAt w Bk' ks A ds := by
  intro i d hd
  obtain ⟨hl, b, o, rfl, hbk, hc⟩ := h i d hd
  exact ⟨hl, b, o, rfl, hk b hbk, hc⟩
section
variable {H : Type} {enc : TypeId × Value → H} {P : Program} {W : World} {r : Go.Reach} {base b0 : Nat} {held : Bool}
theorem open_dos {t e : TypeId} {fs : Array Field} {ks : List IntKind} {v : Value} {d : DataW H} {p : List MemPlace} (ht : P.underlying t = some (.slice e)) (he : P.underlying e = some (.struct fs)) (hone : oneCellFields P fs = true) (ce : P.cellsOf e = ks.length)
    (hk : ∀ (j : Nat) (k : IntKind), ks[j]? = some k → ∃ f : Field, fs[j]? = some f ∧ P.underlying f.type = some (.int k)) (hpos : 0 < ks.length)
    (hv : Value.okWide P W r b0 t v) (h : DataW.Trod enc P W base (fun _ => true) held t v d p) :
    ∃ A ds cap, v = .slice A ds.length cap ∧ DosAt W (fun b => b < W.heap.size) ks A ds ∧ (∀ d ∈ ds, d.length = ks.length ∧ ∀ (j : Nat) (k : IntKind) (x : Int), ks[j]? = some k → d[j]? = some x → (Lit.int k x).wf = true) ∧ ds.length ≤ maxLen := by
  obtain ⟨A0, l0, c0, rfl⟩ := okWide_slice ht hv
  obtain ⟨fuel, hf⟩ := h
  rcases open_slice ht hf with ⟨hcs, _⟩ | ⟨a, len, cap, m, n, D, Pl, hcs, _, hl, hm, hmm, _, hx⟩
  · simp [Value.cells] at hcs
    obtain ⟨rfl, rfl, rfl⟩ := hcs
    exact ⟨none, [], 0, rfl, fun i x hx => by simp at hx, fun x hx => by simp at hx, by simp⟩
  · simp [Value.cells] at hcs
    obtain ⟨rfl, rfl, rfl⟩ := hcs
    rw [if_pos rfl] at hmm
    have key : ∀ i, i < l0 → ∃ q : List Int, q.length = ks.length ∧ ∀ (j : Nat) (k : IntKind) (x : Int), ks[j]? = some k → q[j]? = some x → (Lit.int k x).wf = true ∧ W.cell? (a.add (i * ks.length + j)) = some (.int k x) := by
      intro i hi
      obtain ⟨cs', h1, h2⟩ := hx i (by omega)
      rw [ce] at h1
      obtain ⟨_, hlen, hcell⟩ := World.cells?_some h1
      obtain ⟨xs, k0, hk0, hxy, _, hxl, hfd⟩ := DataW.trod_struct he h2
      have one : ∀ j, j < ks.length → ∃ x : Int, ∀ k, ks[j]? = some k → (Lit.int k x).wf = true ∧ W.cell? (a.add (i * ks.length + j)) = some (.int k x) := by
        intro j hj
        obtain ⟨f, hf1, hf2⟩ := hk j (ks[j]) (List.getElem?_eq_getElem hj)
        obtain ⟨ho, hc1⟩ := hone_of hone j f hf1
        have hjl : j < cs'.length := by omega
        have g := hfd j f hf1
        rw [ho, hc1] at g
        have e1 : (cs'.drop j).take 1 = [cs'[j]] := by
          rw [List.drop_eq_getElem_cons hjl]; rfl
        rw [e1, List.getElem?_eq_getElem (show j < xs.length by have := (Array.getElem?_eq_some_iff.1 hf1).1; omega)] at g
        obtain ⟨x, hx1, _, hw⟩ := DataW.trod_int hf2 g
        refine ⟨x, fun k hk' => ?_⟩
        have hkk : ks[j] = k := by rw [List.getElem?_eq_getElem hj] at hk'; exact Option.some.inj hk'
        rw [hkk] at hx1 hw
        refine ⟨hw, ?_⟩
        have hcj := hcell j (by omega)
        rw [add_add] at hcj
        rw [hcj, List.getElem?_eq_getElem hjl]
        injection hx1 with hx1
        rw [hx1]
      obtain ⟨F, hF⟩ := choose_lt one
      refine ⟨(List.range ks.length).map F, by simp, fun j k x hj hxx => ?_⟩
      have hjk : j < ks.length := (List.getElem?_eq_some_iff.1 hj).1
      rw [List.getElem?_map, List.getElem?_range hjk] at hxx
      obtain rfl : F j = x := by simpa using hxx
      exact hF j hjk k hj
    obtain ⟨Q, hQ⟩ := choose_lt key
    have hql : ((List.range l0).map Q).length = l0 := by simp
    have hel : ∀ (i : Nat) d, ((List.range l0).map Q)[i]? = some d → i < l0 ∧ d = Q i := by
      intro i d h
      have hi : i < l0 := by have := (List.getElem?_eq_some_iff.1 h).1; simpa using this
      rw [List.getElem?_map, List.getElem?_range hi] at h
      exact ⟨hi, by simpa using h.symm⟩
    refine ⟨some a, (List.range l0).map Q, c0, by rw [hql], ?_, ?_, by omega⟩
    · intro i d hd
      obtain ⟨hi, rfl⟩ := hel i d hd
      obtain ⟨hq1, hq2⟩ := hQ i hi
      refine ⟨hq1, ?_⟩
      have hk0 := List.getElem?_eq_getElem hpos
      have hx0 := List.getElem?_eq_getElem (l := Q i) (i := 0) (by omega)
      have hc0 := (hq2 0 _ _ hk0 hx0).2
      obtain ⟨hp1, hp2⟩ := hQ 0 (by omega)
      have hs : a.spot = none := by
        have h00 := (hp2 0 _ _ hk0 (List.getElem?_eq_getElem (l := Q 0) (i := 0) (by omega))).2
        exact spot_none (a := a) (by simpa [Addr.add] using h00)
      obtain ⟨b, o, s⟩ := a
      obtain rfl : s = none := hs
      have hb0 : b < W.heap.size := by have := cell_lt hc0; rw [add_lit] at this; exact this
      refine ⟨b, o, rfl, hb0, fun j k x hj hxx => ?_⟩
      have := (hq2 j k x hj hxx).2
      rw [add_lit] at this
      rw [Nat.add_assoc]
      exact this
    · intro d hd
      obtain ⟨i, hi⟩ := List.getElem?_of_mem hd
      obtain ⟨hi2, rfl⟩ := hel i d hi
      obtain ⟨hq1, hq2⟩ := hQ i hi2
      exact ⟨hq1, fun j k x hj hxx => (hq2 j k x hj hxx).1⟩
end
end Go.Proofs.YtnkmlopjinihiaaDoor
