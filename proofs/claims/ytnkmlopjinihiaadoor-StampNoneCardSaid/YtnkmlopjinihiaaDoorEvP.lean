/- Plain events, and a log of events in memory (events without data). No program is walked. -/
import Derived.Test.YtnkmlopjinihiaaDoorIts
namespace Go.Proofs.YtnkmlopjinihiaaDoor
open Go.RowKit
set_option linter.unusedVariables false
set_option linter.unusedSimpArgs false

theorem blk_cells7 {w : World} {g : Nat} {t : TypeId} {a0 a1 a2 a3 a4 a5 a6 : Value} (h : Blk w g t #[a0, a1, a2, a3, a4, a5, a6]) : w.cell? ⟨g, 0, none⟩ = some a0 ∧ w.cell? ⟨g, 1, none⟩ = some a1 ∧ w.cell? ⟨g, 2, none⟩ = some a2 ∧ w.cell? ⟨g, 3, none⟩ = some a3 ∧ w.cell? ⟨g, 4, none⟩ = some a4 ∧ w.cell? ⟨g, 5, none⟩ = some a5 ∧ w.cell? ⟨g, 6, none⟩ = some a6 :=
  ⟨h.cell 0, h.cell 1, h.cell 2, h.cell 3, h.cell 4, h.cell 5, h.cell 6⟩
theorem Blk.snd (w : World) (a : Obj) (t : TypeId) (cs : Array Value) : Blk ((w.alloc a).alloc (.cells cs t)) (w.heap.size + 1) t cs := by
  have h := Blk.new (w.alloc a) t cs
  rw [World.size_alloc] at h
  exact h
structure Ev where
  kind : Int
  thread : Int
  op : Int
  n : Int
  pos : Int
  code : Int
/-- an event in memory: where its empty data lie -/
structure EvR where
  e : Ev
  da : Option Addr
  dc : Nat
def EvR.vs (r : EvR) : List Value := [.int .i64 r.e.kind, .int .i64 r.e.thread, .int .i64 r.e.op, .int .i64 r.e.n, .int .u64 r.e.pos, .int .i64 r.e.code, .slice r.da 0 r.dc]
def evVs (l : List EvR) : List Value := l.flatMap EvR.vs
theorem evVs_append (l : List EvR) (a : EvR) : evVs l ++ a.vs = evVs (l ++ [a]) := by simp [evVs]
theorem evVs_length (l : List EvR) : (evVs l).length = l.length * 7 := by
  induction l with
  | nil => rfl
  | cons a l ih => simp only [evVs, List.flatMap_cons, List.length_append] at ih ⊢; rw [ih]; simp [EvR.vs]; omega
theorem evVs_get {l : List EvR} : ∀ {k : Nat} {a : EvR}, l[k]? = some a → ∀ i, i < 7 → (evVs l)[k * 7 + i]? = (a.vs)[i]? := by
  induction l with
  | nil => intro k a h; simp at h
  | cons b l ih =>
    intro k a h i hi
    show (b.vs ++ evVs l)[k * 7 + i]? = _
    cases k with
    | zero =>
      obtain rfl : b = a := by simpa using h
      rw [List.getElem?_append_left (by simp [EvR.vs]; omega)]
      simp
    | succ k =>
      rw [List.getElem?_append_right (by simp [EvR.vs]; omega)]
      have : (k + 1) * 7 + i - b.vs.length = k * 7 + i := by simp [EvR.vs]; omega
      rw [this]
      exact ih (by simpa using h) i hi
theorem ev_one (l : List EvR) : ∀ u ∈ evVs l, u.oneCell' = true := by
  intro u hu
  obtain ⟨a, _, ha⟩ := List.mem_flatMap.1 hu
  simp only [EvR.vs, List.mem_cons, List.not_mem_nil, or_false] at ha
  rcases ha with rfl | rfl | rfl | rfl | rfl | rfl | rfl <;> rfl
/-- a log of events: a block with a slice -/
def LogAt (tL tE : TypeId) (w : World) (γ : Nat → Nat) (id g : Nat) (l : List Ev) : Prop :=
  ∃ (lv : Value) (rs : List EvR), rs.map EvR.e = l ∧ Blk w g tL #[lv] ∧ γ g = id ∧ RowAt w γ id tE 7 lv rs.length (evVs rs)
theorem LogAt.keptI {tL tE : TypeId} {id g : Nat} {l : List Ev} {w w' : World} {γ γ' : Nat → Nat} (h : LogAt tL tE w γ id g l) (hk : Kept id w w' γ γ') : LogAt tL tE w' γ' id g l := by
  obtain ⟨lv, rs, h1, h2, h3, h4⟩ := h
  have hb := h2.keptI h3 hk
  exact ⟨lv, rs, h1, hb.1, hb.2, h4.keptI hk⟩
def itL (tL tE : TypeId) (id g : Nat) (l : List Ev) : It := ⟨id, fun w γ => LogAt tL tE w γ id g l, fun h hk => h.keptI hk⟩
/-- what a call that turns one thing ends with -/
def OneEnd (x : It) (w : World) (γ : Nat → Nat) (v : Value) (e : Ending) (w' : World) : Prop := e = .returned v ∧ ∃ γ', x.P w' γ' ∧ Fr (OneId x.id) γ γ' w w'
theorem LogAt.noted {tL tE : TypeId} {w w1 w2 : World} {γ : Nat → Nat} {id g : Nat} {rs : List EvR} {lv nv : Value} {a : EvR} (hne : tE ≠ tL)
    (hB : Blk w g tL #[lv]) (hlab : γ g = id) (hrow : RowAt w γ id tE 7 lv rs.length (evVs rs)) (hb : Below w.heap.size w w1) (hgr : w1.grownBy w2 lv.ownBlock)
    (hown : w2.ownsRow 0 tE 7 nv (rs.length + 1) (evVs rs ++ a.vs)) (hat : ∀ k, nv.ownBlock = some k → lv.ownBlock = some k ∨ k = w1.heap.size) :
    ∃ γ', LogAt tL tE (w2.setCell ⟨g, 0, none⟩ nv) γ' id g (rs.map EvR.e ++ [a.e]) ∧ Fr (OneId id) γ γ' w (w2.setCell ⟨g, 0, none⟩ nv) := by
  have hl1 : w1.ownsRow 0 tE 7 lv rs.length (evVs rs) := ownsRow_keep hrow.1 fun k hk => hb.block k (hrow.1.lt k hk).2
  have hr1 : Blk w1 g tL _ := hB.below hb hB.lt
  have hr2 := hr1.grown hgr (fun e => own_blk_ne hl1 hr1 hne e.symm)
  have hg3 := grown_setCell w2 g 0 nv
  have hlp : Lab w γ id g = id := by unfold Lab; rw [if_pos hB.lt]; exact hlab
  refine ⟨Lab w γ id, ⟨nv, rs ++ [a], by simp, ?_, hlp, ?_⟩, ?_⟩
  · exact hr2.set_ 0 nv
  · refine ⟨?_, fun k hk => ?_⟩
    · have h4 := hown.kept hg3 (.inr (own_blk_ne hown hr2 hne))
      rw [evVs_append] at h4
      simpa using h4
    · unfold Lab
      rcases hat k hk with h5 | h5
      · rw [if_pos (hrow.1.lt k h5).2]; exact hrow.2 k h5
      · rw [if_neg (by have := hb.size; omega)]
  · have f1 : Fr (OneId id) γ γ w w2 := (Fr.of_below hb _ γ).grown hgr (fun k hk => .inr (hrow.2 k hk))
    exact (f1.setCell (p := ⟨g, 0, none⟩) (.inr hlab) nv).relabel (fun _ => id)
end Go.Proofs.YtnkmlopjinihiaaDoor
