/- A board in memory, its blocks with a label; what is kept through calls. No program is walked. -/
import Derived.Test.YtnkmlopjinihiaaDoorBoardP
import Derived.Test.YtnkmlopjinihiaaDoorOwn
import Derived.Test.YtnkmlopjinihiaaDoorProg
import Derived.Laws.OwnMore
namespace Go.Proofs.YtnkmlopjinihiaaDoor
open Go.RowKit
set_option linter.unusedVariables false
set_option linter.unusedSimpArgs false

/-- The board b lies at p, all its blocks labelled id. -/
structure BoardF (tB tW tA : TypeId) (kd : IntKind) (w : World) (γ : Nat → Nat) (id p : Nat) (b : BS) (cv dv lv : Value) : Prop where
  brd : Blk w p tB (b.l.vs ++ [cv, dv, lv]).toArray
  lab : γ p = id
  cel : RowAt w γ id tW 1 cv b.cells.length (b.cells.map (Value.int kd))
  dat : RowAt w γ id 3 1 dv b.data.length (b.data.map (Value.int .i64))
  log : RowAt w γ id tA 5 lv b.log.length (accVs b.log)
def BoardAt (tB tW tA : TypeId) (kd : IntKind) (w : World) (γ : Nat → Nat) (id p : Nat) (b : BS) : Prop := ∃ cv dv lv, BoardF tB tW tA kd w γ id p b cv dv lv
section
variable {tB tW tA : TypeId} {kd : IntKind} {w w' w1 w2 : World} {γ γ' : Nat → Nat} {id p : Nat} {b : BS} {cv dv lv : Value} {S : Nat → Prop}
theorem BoardF.fr (h : BoardF tB tW tA kd w γ id p b cv dv lv) (hf : Fr S γ γ' w w') (hs : ¬ S id) : BoardF tB tW tA kd w' γ' id p b cv dv lv :=
  ⟨hf.block_ h.brd (by rw [h.lab]; exact hs), (hf.lab _ h.brd.lt).trans h.lab, h.cel.fr hf hs, h.dat.fr hf hs, h.log.fr hf hs⟩
theorem BoardF.at_ (h : BoardF tB tW tA kd w γ id p b cv dv lv) : BoardAt tB tW tA kd w γ id p b := ⟨_, _, _, h⟩
theorem BoardAt.fr (h : BoardAt tB tW tA kd w γ id p b) (hf : Fr S γ γ' w w') (hs : ¬ S id) : BoardAt tB tW tA kd w' γ' id p b := by
  obtain ⟨cv, dv, lv, h⟩ := h
  exact (h.fr hf hs).at_
theorem BoardF.below (h : BoardF tB tW tA kd w γ id p b cv dv lv) (hb : Below w.heap.size w w') : BoardF tB tW tA kd w' γ id p b cv dv lv := h.fr (Fr.of_below hb NoId γ) (fun h => h)
theorem BoardAt.below (h : BoardAt tB tW tA kd w γ id p b) (hb : Below w.heap.size w w') : BoardAt tB tW tA kd w' γ id p b := h.fr (Fr.of_below hb NoId γ) (fun h => h)
theorem BoardAt.lt (h : BoardAt tB tW tA kd w γ id p b) : p < w.heap.size := by obtain ⟨_, _, _, h⟩ := h; exact h.brd.lt
theorem BoardAt.lab (h : BoardAt tB tW tA kd w γ id p b) : γ p = id := by obtain ⟨_, _, _, h⟩ := h; exact h.lab

/-- a row of whole numbers at one of its places -/
theorem row_at {base : Nat} {e : TypeId} {v : Value} {xs : List Int} (h : w.ownsRow base e 1 v xs.length (xs.map (Value.int kd))) {k : Nat} (hk : k < xs.length) :
    ∃ g cap, v = .slice (some ⟨g, 0, none⟩) xs.length cap ∧ g < w.heap.size ∧ w.cell? ⟨g, k, none⟩ = some (.int kd (xs.getD k 0)) ∧ w.frozen? ⟨g, k, none⟩ = false := by
  obtain ⟨g, cap, rfl, _, hlt⟩ := h.form (by omega)
  refine ⟨g, cap, rfl, hlt, ?_, h.frozenAt k⟩
  rw [h.cellAt k (by omega)]
  simp [List.getElem?_map, List.getElem?_eq_getElem hk, List.getD]
theorem accVs_append (l : List Acc) (a : Acc) : accVs l ++ a.vs = accVs (l ++ [a]) := by simp [accVs]
theorem accVs_length (l : List Acc) : (accVs l).length = l.length * 5 := by
  induction l with
  | nil => rfl
  | cons a l ih => simp only [accVs, List.flatMap_cons, List.length_append] at ih ⊢; rw [ih]; simp [Acc.vs]; omega
def Lab (w : World) (γ : Nat → Nat) (id : Nat) : Nat → Nat := fun b => if b < w.heap.size then γ b else id
theorem RowAt.kept {e size n : Nat} {v : Value} {xs : List Value} {row : Option Nat} (h : RowAt w γ id e size v n xs) (hg : w.grownBy w' row) (hne : v.ownBlock = none ∨ v.ownBlock ≠ row) : RowAt w' γ id e size v n xs :=
  ⟨h.1.kept hg hne, h.2⟩
theorem RowAt.labs {e size n : Nat} {v : Value} {xs : List Value} (h : RowAt w γ id e size v n xs) (hk : ∀ g, v.ownBlock = some g → w'.heap[g]? = w.heap[g]?) : RowAt w' (Lab w γ id) id e size v n xs :=
  ⟨ownsRow_keep h.1 hk, fun g hg => by unfold Lab; rw [if_pos (h.1.lt g hg).2]; exact h.2 g hg⟩

theorem Blk.noted {e size n : Nat} {t : TypeId} {cs : Array Value} {xs : List Value} {o : Obj} {v : Value} (h : Blk w p t cs) (hne : e ≠ t) (ho : (w.alloc o).ownsRow 0 e size v n xs) (hg : (w.alloc o).grownBy w2 v.ownBlock) (i : Nat) :
    w2.cell? ⟨p, i, none⟩ = cs[i]? ∧ w2.frozen? ⟨p, i, none⟩ = false := by
  have h2 := (h.alloc o).grown hg (fun e => own_blk_ne ho (h.alloc o) hne e.symm)
  exact ⟨h2.cell i, h2.frozen i⟩
/-- what a call that turns the board ends with -/
def MutEnd (tB tW tA : TypeId) (kd : IntKind) (w : World) (γ : Nat → Nat) (id p : Nat) (v : Value) (b' : BS) (e : Ending) (w' : World) : Prop :=
  e = .returned v ∧ ∃ γ', BoardAt tB tW tA kd w' γ' id p b' ∧ Fr (OneId id) γ γ' w w'
theorem BoardF.noted (hBW : tW ≠ tB) (hBA : tA ≠ tB) (hWA : tW ≠ tA) (hIA : 3 ≠ tA) (hIB : 3 ≠ tB) {nv : Value} {a : Acc}
    (h : BoardF tB tW tA kd w γ id p b cv dv lv) (hb : Below w.heap.size w w1) (hgr : w1.grownBy w2 lv.ownBlock)
    (hown : w2.ownsRow 0 tA 5 nv (b.log.length + 1) (accVs b.log ++ a.vs)) (hat : ∀ g, nv.ownBlock = some g → lv.ownBlock = some g ∨ g = w1.heap.size) :
    ∃ γ', BoardAt tB tW tA kd (w2.setCell ⟨p, 16, none⟩ nv) γ' id p { b with log := b.log ++ [a] } ∧ Fr (OneId id) γ γ' w (w2.setCell ⟨p, 16, none⟩ nv) := by
  obtain ⟨hbrd, hlab, hcel, hdat, hlog⟩ := h
  have hl1 : w1.ownsRow 0 tA 5 lv b.log.length (accVs b.log) := ownsRow_keep hlog.1 fun g hg => hb.block g (hlog.1.lt g hg).2
  have hc1 : w1.ownsRow 0 tW 1 cv b.cells.length _ := ownsRow_keep hcel.1 fun g hg => hb.block g (hcel.1.lt g hg).2
  have hd1 : w1.ownsRow 0 3 1 dv b.data.length _ := ownsRow_keep hdat.1 fun g hg => hb.block g (hdat.1.lt g hg).2
  have hr1 : Blk w1 p tB _ := hbrd.below hb hbrd.lt
  have hr2 := hr1.grown hgr (fun e => own_blk_ne hl1 hr1 hBA e.symm)
  have hc2 := hc1.kept hgr (own_own_ne hc1 hl1 hWA)
  have hd2 := hd1.kept hgr (own_own_ne hd1 hl1 hIA)
  have hg3 := grown_setCell w2 p 16 nv
  have hpl := hbrd.lt
  have hlp : Lab w γ id p = id := by unfold Lab; rw [if_pos hpl]; exact hlab
  refine ⟨Lab w γ id, ⟨cv, dv, nv, ?_, hlp, ?_, ?_, ?_⟩, ?_⟩
  · have h3 := hr2.set_ 16 nv
    have e : (b.l.vs ++ [cv, dv, lv]).toArray.setIfInBounds 16 nv = (b.l.vs ++ [cv, dv, nv]).toArray := rfl
    rw [e] at h3
    exact h3
  · exact ⟨hc2.kept hg3 (.inr (own_blk_ne hc2 hr2 hBW)), fun g hg => by unfold Lab; rw [if_pos (hcel.1.lt g hg).2]; exact hcel.2 g hg⟩
  · refine ⟨hd2.kept hg3 (.inr (own_blk_ne hd2 hr2 hIB)), fun g hg => by unfold Lab; rw [if_pos (hdat.1.lt g hg).2]; exact hdat.2 g hg⟩
  · refine ⟨?_, fun g hg => ?_⟩
    · have h4 := hown.kept hg3 (.inr (own_blk_ne hown hr2 hBA))
      rw [accVs_append] at h4
      simpa using h4
    · unfold Lab
      rcases hat g hg with h5 | h5
      · rw [if_pos (hlog.1.lt g h5).2]; exact hlog.2 g h5
      · rw [if_neg (by have := hb.size; omega)]
  · have f1 : Fr (OneId id) γ γ w w2 := (Fr.of_below hb _ γ).grown hgr (fun k hk => .inr (hlog.2 k hk))
    exact (f1.setCell (p := ⟨p, 16, none⟩) (.inr hlab) nv).relabel (fun _ => id)
theorem BoardF.drewN (h : BoardF tB tW tA kd w γ id p b cv dv lv) (n : Nat) : BoardF tB tW tA kd (w.drewN n) γ id p b cv dv lv := ⟨h.brd, h.lab, h.cel, h.dat, h.log⟩
theorem BoardAt.drewN (h : BoardAt tB tW tA kd w γ id p b) (n : Nat) : BoardAt tB tW tA kd (w.drewN n) γ id p b := by
  obtain ⟨cv, dv, lv, h⟩ := h
  exact (h.drewN n).at_
theorem BoardF.laid (hBW : tW ≠ tB) (hWA : tW ≠ tA) (hWI : tW ≠ 3) {g cap : Nat} (h : BoardF tB tW tA kd w γ id p b (.slice (some ⟨g, 0, none⟩) b.cells.length cap) dv lv) (k : Nat) (x : Int) :
    BoardF tB tW tA kd (w.setCell ⟨g, k, none⟩ (.int kd x)) γ id p { b with cells := b.cells.set k x } (.slice (some ⟨g, 0, none⟩) b.cells.length cap) dv lv ∧ Fr (OneId id) γ γ w (w.setCell ⟨g, k, none⟩ (.int kd x)) := by
  obtain ⟨hbrd, hlab, hcel, hdat, hlog⟩ := h
  have hs := hcel.1.stored k (.int kd x)
  have hne := own_blk_ne hcel.1 hbrd hBW
  refine ⟨⟨hbrd.grown hs.2 (fun e => hne e.symm), hlab, ⟨?_, hcel.2⟩, hdat.kept hs.2 (own_own_ne hdat.1 hcel.1 (Ne.symm hWI)), hlog.kept hs.2 (own_own_ne hlog.1 hcel.1 (Ne.symm hWA))⟩, ?_⟩
  · have h1 := hs.1
    rw [← List.map_set] at h1
    simpa using h1
  · exact (Fr.refl _ _ _).setCell (p := ⟨g, k, none⟩) (.inr (hcel.2 g rfl)) _
theorem BoardF.put (hIB : 3 ≠ tB) (hIA : 3 ≠ tA) (hWI : tW ≠ 3) {g cap : Nat} (h : BoardF tB tW tA kd w γ id p b cv (.slice (some ⟨g, 0, none⟩) b.data.length cap) lv) (k : Nat) (x : Int) :
    BoardF tB tW tA kd (w.setCell ⟨g, k, none⟩ (.int .i64 x)) γ id p { b with data := b.data.set k x } cv (.slice (some ⟨g, 0, none⟩) b.data.length cap) lv ∧ Fr (OneId id) γ γ w (w.setCell ⟨g, k, none⟩ (.int .i64 x)) := by
  obtain ⟨hbrd, hlab, hcel, hdat, hlog⟩ := h
  have hs := hdat.1.stored k (.int .i64 x)
  have hne := own_blk_ne hdat.1 hbrd hIB
  refine ⟨⟨hbrd.grown hs.2 (fun e => hne e.symm), hlab, hcel.kept hs.2 (own_own_ne hcel.1 hdat.1 hWI), ⟨?_, hdat.2⟩, hlog.kept hs.2 (own_own_ne hlog.1 hdat.1 (Ne.symm hIA))⟩, ?_⟩
  · have h1 := hs.1
    rw [← List.map_set] at h1
    simpa using h1
  · exact (Fr.refl _ _ _).setCell (p := ⟨g, k, none⟩) (.inr (hdat.2 g rfl)) _
theorem MutEnd.of_below {v : Value} (h : BoardAt tB tW tA kd w γ id p b) (hb : Below w.heap.size w w') : MutEnd tB tW tA kd w γ id p v b (.returned v) w' :=
  ⟨rfl, γ, h.below hb, Fr.of_below hb _ _⟩
theorem MutEnd.from_ {v : Value} {b' : BS} {e : Ending} (hb : Below w.heap.size w w1) (h : MutEnd tB tW tA kd w1 γ id p v b' e w') : MutEnd tB tW tA kd w γ id p v b' e w' := by
  obtain ⟨he, γ', hB, hf⟩ := h
  exact ⟨he, γ', hB, (Fr.of_below hb _ _).trans hf⟩
end
end Go.Proofs.YtnkmlopjinihiaaDoor
