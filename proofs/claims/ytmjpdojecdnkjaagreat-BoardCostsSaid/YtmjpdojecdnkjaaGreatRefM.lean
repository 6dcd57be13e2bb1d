/- The reference's board in memory: it has what a board has. -/
import Derived.Test.YtmjpdojecdnkjaaGreatRefP
import Derived.Test.YtmjpdojecdnkjaaGreatBoardM
import Derived.Test.YtmjpdojecdnkjaaGreatNew
namespace Go.Proofs.YtmjpdojecdnkjaaGreat
open Go.RowKit
set_option linter.unusedVariables false
set_option linter.unusedSimpArgs false
set_option maxHeartbeats 2000000

/-- what all cells have, data as numbers without a sign -/
def hasOf (b : BS) : List Int := b.cells ++ b.data.map u64I
/-- the reference's configuration and cells, and the board's -/
structure RefRel (c0 : Cf) (b : BS) (rc : List RC) : Prop where
  variant : c0.variant = b.l.c.variant
  width : c0.width = b.l.c.width
  cap : c0.cap = b.l.c.cap
  producers : c0.producers = b.l.c.producers
  un : c0.un = b.l.c.un
  len : (rc.length : Int) = b.l.cells
  kind : ∀ (k : Nat) (r : RC), rc[k]? = some r → r.kind = b.l.kind k
structure RefF (w : World) (γ : Nat → Nat) (id q : Nat) (c0 : Cf) (b : BS) (rc : List RC) (cv hv lv : Value) : Prop where
  brd : Blk w q 53 (c0.vs ++ [cv, hv, lv]).toArray
  lab : γ q = id
  cel : RowAt w γ id 101 3 cv rc.length (rcsVs rc)
  has : RowAt w γ id 22 1 hv (hasOf b).length ((hasOf b).map (Value.int .u64))
  log : RowAt w γ id 110 5 lv b.log.length (accVs b.log)
def RefAt (w : World) (γ : Nat → Nat) (id q : Nat) (c0 : Cf) (b : BS) : Prop := ∃ rc cv hv lv, RefF w γ id q c0 b rc cv hv lv ∧ RefRel c0 b rc
section
variable {w w' w1 w2 : World} {γ γ' : Nat → Nat} {id q : Nat} {c0 : Cf} {b b' : BS} {rc : List RC} {cv hv lv nv : Value} {S : Nat → Prop}
theorem RefF.fr (h : RefF w γ id q c0 b rc cv hv lv) (hf : Fr S γ γ' w w') (hs : ¬ S id) : RefF w' γ' id q c0 b rc cv hv lv :=
  ⟨hf.block_ h.brd (by rw [h.lab]; exact hs), (hf.lab _ h.brd.lt).trans h.lab, h.cel.fr hf hs, h.has.fr hf hs, h.log.fr hf hs⟩
theorem RefAt.fr (h : RefAt w γ id q c0 b) (hf : Fr S γ γ' w w') (hs : ¬ S id) : RefAt w' γ' id q c0 b := by
  obtain ⟨rc, cv, hv, lv, h, hr⟩ := h
  exact ⟨rc, cv, hv, lv, h.fr hf hs, hr⟩
theorem RefAt.below (h : RefAt w γ id q c0 b) (hb : Below w.heap.size w w') : RefAt w' γ id q c0 b := h.fr (Fr.of_below hb NoId γ) (fun h => h)
theorem RefAt.lab (h : RefAt w γ id q c0 b) : γ q = id := by obtain ⟨_, _, _, _, h, _⟩ := h; exact h.lab
/-- what a call that turns the reference's board ends with -/
def RMutEnd (w : World) (γ : Nat → Nat) (id q : Nat) (c0 : Cf) (v : Value) (b' : BS) (e : Ending) (w' : World) : Prop := e = .returned v ∧ ∃ γ', RefAt w' γ' id q c0 b' ∧ Fr (OneId id) γ γ' w w'
theorem RefF.noted {a : Acc} {o : Obj} (h : RefF w γ id q c0 b rc cv hv lv) (hgr : (w.alloc o).grownBy w2 lv.ownBlock)
    (hown : w2.ownsRow 0 110 5 nv (b.log.length + 1) (accVs b.log ++ a.vs)) (hat : ∀ g, nv.ownBlock = some g → lv.ownBlock = some g ∨ g = w.heap.size + 1) :
    RefF (w2.setCell ⟨q, 8, none⟩ nv) (Lab w γ id) id q c0 { b with log := b.log ++ [a] } rc cv hv nv ∧ Fr (OneId id) γ (Lab w γ id) w (w2.setCell ⟨q, 8, none⟩ nv) := by
  obtain ⟨hbrd, hlab, hcel, hhas, hlog⟩ := h
  have hl1 := hlog.1.alloc o
  have hr1 := hbrd.alloc o
  have hr2 := hr1.grown hgr (fun e => own_blk_ne hl1 hr1 (by decide) e.symm)
  have hc2 := (hcel.1.alloc o).kept hgr (own_own_ne (hcel.1.alloc o) hl1 (by decide))
  have hd2 := (hhas.1.alloc o).kept hgr (own_own_ne (hhas.1.alloc o) hl1 (by decide))
  have hg3 := grown_setCell w2 q 8 nv
  have hpl := hbrd.lt
  have hlp : Lab w γ id q = id := by unfold Lab; rw [if_pos hpl]; exact hlab
  refine ⟨⟨?_, hlp, ?_, ?_, ?_⟩, ?_⟩
  · have h3 := hr2.set_ 8 nv
    have e : (c0.vs ++ [cv, hv, lv]).toArray.setIfInBounds 8 nv = (c0.vs ++ [cv, hv, nv]).toArray := rfl
    rw [e] at h3
    exact h3
  · exact ⟨hc2.kept hg3 (.inr (own_blk_ne hc2 hr2 (by decide))), fun g hg => by unfold Lab; rw [if_pos (hcel.1.lt g hg).2]; exact hcel.2 g hg⟩
  · exact ⟨hd2.kept hg3 (.inr (own_blk_ne hd2 hr2 (by decide))), fun g hg => by unfold Lab; rw [if_pos (hhas.1.lt g hg).2]; exact hhas.2 g hg⟩
  · refine ⟨?_, fun g hg => ?_⟩
    · have h4 := hown.kept hg3 (.inr (own_blk_ne hown hr2 (by decide)))
      rw [accVs_append] at h4
      simpa using h4
    · unfold Lab
      rcases hat g hg with h5 | h5
      · rw [if_pos (hlog.1.lt g h5).2]; exact hlog.2 g h5
      · rw [if_neg (by omega)]
  · have f1 : Fr (OneId id) γ γ w w2 := ((Fr.refl _ _ _).alloc o).grown hgr (fun k hk => .inr (hlog.2 k hk))
    exact (f1.setCell (p := ⟨q, 8, none⟩) (.inr hlab) nv).relabel (fun _ => id)
theorem RefF.stored {g cap : Nat} (h : RefF w γ id q c0 b rc cv (.slice (some ⟨g, 0, none⟩) (hasOf b).length cap) lv) (k : Nat) (x : Int) (hb' : hasOf b' = (hasOf b).set k x) (hlg : b'.log = b.log) :
    RefF (w.setCell ⟨g, k, none⟩ (.int .u64 x)) γ id q c0 b' rc cv (.slice (some ⟨g, 0, none⟩) (hasOf b').length cap) lv ∧ Fr (OneId id) γ γ w (w.setCell ⟨g, k, none⟩ (.int .u64 x)) := by
  obtain ⟨hbrd, hlab, hcel, hhas, hlog⟩ := h
  have hln : (hasOf b').length = (hasOf b).length := by rw [hb', List.length_set]
  rw [hln]
  have hs := hhas.1.stored k (.int .u64 x)
  have hne := own_blk_ne hhas.1 hbrd (by decide)
  refine ⟨⟨hbrd.grown hs.2 (fun e => hne e.symm), hlab, hcel.kept hs.2 (own_own_ne hcel.1 hhas.1 (by decide)), ⟨?_, hhas.2⟩, ?_⟩, ?_⟩
  · have h1 := hs.1
    rw [← List.map_set, ← hb'] at h1
    rw [hln]
    exact h1
  · rw [hlg]; exact hlog.kept hs.2 (own_own_ne hlog.1 hhas.1 (by decide))
  · exact (Fr.refl _ _ _).setCell (p := ⟨g, k, none⟩) (.inr (hhas.2 g rfl)) _
theorem RefRel.same {rc : List RC} (h : RefRel c0 b rc) (hl : b'.l = b.l) : RefRel c0 b' rc := by
  refine ⟨?_, ?_, ?_, ?_, ?_, ?_, ?_⟩ <;> rw [hl]
  · exact h.variant
  · exact h.width
  · exact h.cap
  · exact h.producers
  · exact h.un
  · exact h.len
  · exact h.kind
end
theorem blk_cells9 {w : World} {g : Nat} {t : TypeId} {a0 a1 a2 a3 a4 a5 a6 a7 a8 : Value} (h : Blk w g t #[a0, a1, a2, a3, a4, a5, a6, a7, a8]) : w.cell? ⟨g, 0, none⟩ = some a0 ∧ w.cell? ⟨g, 1, none⟩ = some a1 ∧ w.cell? ⟨g, 2, none⟩ = some a2 ∧ w.cell? ⟨g, 3, none⟩ = some a3 ∧ w.cell? ⟨g, 4, none⟩ = some a4 ∧ w.cell? ⟨g, 5, none⟩ = some a5 ∧ w.cell? ⟨g, 6, none⟩ = some a6 ∧ w.cell? ⟨g, 7, none⟩ = some a7 ∧ w.cell? ⟨g, 8, none⟩ = some a8 :=
  ⟨h.cell 0, h.cell 1, h.cell 2, h.cell 3, h.cell 4, h.cell 5, h.cell 6, h.cell 7, h.cell 8⟩
/-- a cell of the reference among its cells -/
theorem rc_cell {w : World} {base n : Nat} {e : TypeId} {v : Value} {rc : List RC} (h : w.ownsRow base e 3 v n (rcsVs rc)) {k : Nat} {r : RC} (hr : rc[k]? = some r) (hn : n = rc.length) :
    ∃ g cap, v = .slice (some ⟨g, 0, none⟩) n cap ∧ g < w.heap.size ∧ w.cell? ⟨g, k * 3, none⟩ = some (.string (strS r.name)) ∧ w.cell? ⟨g, k * 3 + 1, none⟩ = some (.int .i64 r.kind) ∧ w.cell? ⟨g, k * 3 + 2, none⟩ = some (.int .u64 r.first) := by
  have hk : k < rc.length := (List.getElem?_eq_some_iff.1 hr).1
  obtain ⟨g, cap, rfl, _, hlt⟩ := h.form (by omega)
  have hv : ∀ (l : List RC) (j : Nat), l[j]? = some r → ∀ i, i < 3 → (rcsVs l)[j * 3 + i]? = (r.vs)[i]? := by
    intro l
    induction l with
    | nil => intro j hj; simp at hj
    | cons x l ih =>
      intro j hj i hi
      show (x.vs ++ rcsVs l)[j * 3 + i]? = _
      cases j with
      | zero =>
        obtain rfl : x = r := by simpa using hj
        rw [List.getElem?_append_left (by simp [RC.vs]; omega)]; simp
      | succ j =>
        rw [List.getElem?_append_right (by simp [RC.vs]; omega)]
        have : (j + 1) * 3 + i - x.vs.length = j * 3 + i := by simp [RC.vs]; omega
        rw [this]
        exact ih j (by simpa using hj) i hi
  have hl := h.1
  have hlen : (rcsVs rc).length = rc.length * 3 := by omega
  refine ⟨g, cap, rfl, hlt, ?_, ?_, ?_⟩
  · rw [h.cellAt (k * 3) (by omega)]; exact hv rc k hr 0 (by omega)
  · rw [h.cellAt (k * 3 + 1) (by omega)]; exact hv rc k hr 1 (by omega)
  · rw [h.cellAt (k * 3 + 2) (by omega)]; exact hv rc k hr 2 (by omega)
end Go.Proofs.YtmjpdojecdnkjaaGreat
