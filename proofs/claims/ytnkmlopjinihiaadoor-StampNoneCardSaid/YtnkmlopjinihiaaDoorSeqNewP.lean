/- In the middle of the making of a sequencer of several producers: its layout's block, its own, the slices of ends and of least gates. No program is walked. -/
import Derived.Test.YtnkmlopjinihiaaDoorSeqNP
import Derived.Test.YtnkmlopjinihiaaDoorEnds
namespace Go.Proofs.YtnkmlopjinihiaaDoor
open Go.RowKit
set_option linter.unusedVariables false
set_option linter.unusedSimpArgs false

structure SNInv (tL tS tW : TypeId) (kd : IntKind) (w wr : World) (lb g li : Nat) (lv : Array Value) (cs : Value → Array Value) (ev : Value) (ends : List Int) (y : Int) (k : Nat) (cv : Value) : Prop where
  bel : Below w.heap.size w wr
  lay : Blk wr lb tL lv
  seq : Blk wr g tS (cs cv)
  ne : lb ≠ g
  ge : w.heap.size ≤ g
  set_ : ∀ a b, (cs a).setIfInBounds li b = cs b
  get : ∀ a, (cs a)[li]? = some a
  ends : wr.ownsRow w.heap.size 3 1 ev ends.length (ends.map (Value.int .i64))
  row : wr.ownsRow w.heap.size tW 1 cv k (List.replicate k (.int kd y))
section
variable {tL tS tW : TypeId} {kd : IntKind} {w wr w1 w2 : World} {lb g li : Nat} {lv : Array Value} {cs : Value → Array Value} {ev : Value} {ends : List Int} {y : Int} {k c1 : Nat} {A1 : Option Addr} {nv : Value} {o : Obj}
theorem SNInv.frozen (hS : tW ≠ tS) (h : SNInv tL tS tW kd w wr lb g li lv cs ev ends y k (.slice A1 k c1)) (hb1 : Below wr.heap.size wr w1) (hgr : (w1.alloc o).grownBy w2 (Value.slice A1 k c1).ownBlock) :
    w2.cell? ⟨g, li, none⟩ = some (.slice A1 k c1) ∧ w2.frozen? ⟨g, li, none⟩ = false := by
  have hc1 : (w1.alloc o).ownsRow w.heap.size tW 1 (.slice A1 k c1) k _ := (ownsRow_keep h.row fun g hg => hb1.block g (h.row.lt g hg).2).alloc o
  have hr1 := (h.seq.below hb1 h.seq.lt).alloc o
  have hr2 := hr1.grown hgr (fun e => own_blk_ne hc1 hr1 hS e.symm)
  exact ⟨(hr2.cell li).trans (h.get _), hr2.frozen li⟩
theorem SNInv.step (hL : tW ≠ tL) (hS : tW ≠ tS) (hI : 3 ≠ tW) (hIS : 3 ≠ tS)
    (h : SNInv tL tS tW kd w wr lb g li lv cs ev ends y k (.slice A1 k c1)) (hb1 : Below wr.heap.size wr w1) (hgr : (w1.alloc o).grownBy w2 (Value.slice A1 k c1).ownBlock)
    (hown : w2.ownsRow w.heap.size tW 1 nv (k + 1) (List.replicate k (Value.int kd y) ++ [.int kd y])) :
    SNInv tL tS tW kd w (w2.setCell ⟨g, li, none⟩ nv) lb g li lv cs ev ends y (k + 1) nv := by
  obtain ⟨hbel, hlay, hseq, hne, hge, hset, hget, hends, hrow⟩ := h
  have hc1 : (w1.alloc o).ownsRow w.heap.size tW 1 (.slice A1 k c1) k _ := (ownsRow_keep hrow fun g hg => hb1.block g (hrow.lt g hg).2).alloc o
  have hd1 : (w1.alloc o).ownsRow w.heap.size 3 1 ev ends.length _ := (ownsRow_keep hends fun g hg => hb1.block g (hends.lt g hg).2).alloc o
  have ho1 : Blk (w1.alloc o) lb tL lv := (hlay.below hb1 hlay.lt).alloc o
  have hr1 : Blk (w1.alloc o) g tS _ := (hseq.below hb1 hseq.lt).alloc o
  have ho2 := ho1.grown hgr (fun e => own_blk_ne hc1 ho1 hL e.symm)
  have hr2 := hr1.grown hgr (fun e => own_blk_ne hc1 hr1 hS e.symm)
  have hd2 := hd1.kept hgr (own_own_ne hd1 hc1 hI)
  refine ⟨?_, ho2.far hne _, ?_, hne, hge, hset, hget, ?_, ?_⟩
  · have hb2 : Below w.heap.size w (w1.alloc o) := (hbel.trans (hb1.mono hbel.size)).alloc (by have := hb1.size; have := hbel.size; omega) _
    have hb3 : Below w.heap.size w w2 := ⟨hgr.os.trans hb2.os, hgr.tape.trans hb2.tape, hgr.output.trans hb2.output, Nat.le_trans hb2.size hgr.size, fun i hi => (hgr.block i (Nat.lt_of_lt_of_le hi hb2.size) (fun e => by have := (hc1.lt i e.symm).1; omega)).trans (hb2.block i hi)⟩
    exact hb3.setCell (p := ⟨g, li, none⟩) hge _
  · have h3 := hr2.set_ li nv
    rw [hset] at h3
    exact h3
  · exact hd2.kept (grown_setCell w2 _ li nv) (.inr (own_blk_ne hd2 hr2 hIS))
  · have h4 := hown.kept (grown_setCell w2 _ li nv) (.inr (own_blk_ne hown hr2 hS))
    rw [List.replicate_succ']
    exact h4
theorem SNStart {w1 w3 : World} {A3 : Option Addr} {c3 : Nat} (hb1 : Below w.heap.size w w1) (hb3 : Below (w1.alloc (.cells lv tL)).heap.size (w1.alloc (.cells lv tL)) w3) (hown : w3.ownsRow (w1.alloc (.cells lv tL)).heap.size 3 1 (.slice A3 ends.length c3) ends.length (ends.map (Value.int .i64)))
    (hl : Blk w3 w1.heap.size tL lv) (hz : w1.heap.size < w3.heap.size) (hset : ∀ a b, (cs a).setIfInBounds li b = cs b) (hget : ∀ a, (cs a)[li]? = some a) :
    SNInv tL tS tW kd w (w3.alloc (.cells (cs (.slice none 0 0)) tS)) w1.heap.size w3.heap.size li lv cs (.slice A3 ends.length c3) ends y 0 (.slice none 0 0) := by
  have hs1 := hb1.size
  have hs3 := hb3.size
  simp at hs3
  have hbb : Below w.heap.size w w3 := (hb1.alloc hs1 _).trans (hb3.mono (by simp; omega))
  exact ⟨hbb.alloc hbb.size _, hl.alloc _, Blk.new _ _ _, by omega, hbb.size, hset, hget, (own_base hown (by simp; omega)).alloc _, World.ownsRow_nil _ _ _ _⟩
end
/-- what a sequencer of several producers is made with -/
def NewNEnd (tS tW : TypeId) (kd : IntKind) (M : Int) (cs : Nat → Nat → SqC → Option Addr → Nat → Nat → Array Value) (cell : Int) (b : BS) (up : List (List Int)) (p lg : Nat) (w : World) (e : Ending) (w' : World) : Prop :=
  ∃ g A c la lc, e = .returned (.pointer (some ⟨g, 0, none⟩)) ∧ Below w.heap.size w w' ∧ w.heap.size ≤ g ∧ ∀ γ id, SeqNAt tS tW kd w' (Lab w γ id) id g (fun n => cs p lg ⟨b.l.c, endsP up, cell, A, c⟩ la n lc) ⟨b.l.c, endsP up, cell, A, c⟩ la lc (List.replicate b.l.c.producers.toNat (cutM M b.l.c.start))
theorem SNInv.done {tL tS tW : TypeId} {kd : IntKind} {M : Int} {w wr : World} {lb g li : Nat} {lv : Array Value} {csv : Value → Array Value} {A : Option Addr} {c : Nat} {up : List (List Int)} {k : Nat} {cv : Value} {cs : Nat → Nat → SqC → Option Addr → Nat → Nat → Array Value} {cell : Int} {b : BS} {p lg : Nat}
    (h : SNInv tL tS tW kd w wr lb g li lv csv (.slice A (endsP up).length c) (endsP up) (cutM M b.l.c.start) k cv) (hk : (k : Int) = b.l.c.producers) (hcs : ∀ la n lc, csv (.slice la n lc) = cs p lg ⟨b.l.c, endsP up, cell, A, c⟩ la n lc) (n : Nat) :
    NewNEnd tS tW kd M cs cell b up p lg w (.returned (.pointer (some ⟨g, 0, none⟩))) (wr.drewN n) := by
  obtain ⟨la, lc, rfl, hc⟩ := own_form h.row
  have hkn : b.l.c.producers.toNat = k := by omega
  have hs := h.seq
  rw [hcs] at hs
  refine ⟨g, A, c, la, lc, rfl, below_drewN h.bel n, h.ge, fun γ id => ⟨?_, ?_, ⟨?_, fun x hx => ?_⟩, ⟨?_, fun x hx => ?_⟩⟩⟩
  · rw [hkn, List.length_replicate]; exact hs.drewN n
  · unfold Lab; rw [if_neg (by have := h.ge; omega)]
  · exact own_base h.ends (Nat.zero_le _)
  · have h4 := (h.ends.lt x hx).1
    unfold Lab; rw [if_neg (by omega)]
  · rw [hkn, List.length_replicate, List.map_replicate]; exact own_base h.row (Nat.zero_le _)
  · rw [hkn, List.length_replicate] at hx
    have h4 := (h.row.lt x hx).1
    unfold Lab; rw [if_neg (by omega)]
theorem csX_eq {p lg : Nat} {q : SqC} {la : Option Addr} {n lc : Nat} {l : Lay} (h : l = mkLay q.c) : #[.pointer (some ⟨p, 0, none⟩), .pointer (some ⟨lg, 0, none⟩), .int .i64 q.c.variant, .int .i64 q.c.width, .int .i64 q.c.cap, .int .i64 q.c.producers, .int .u64 q.c.start, .slice q.c.ua q.c.un q.c.uc, .int .i64 l.cursor, .int .i64 l.claim, .int .i64 l.ticket, .int .i64 l.serving, .int .i64 l.next, .int .i64 l.marks, .int .i64 l.slots, .int .i64 l.cells, .slice q.ea q.ends.length q.ec, .slice la n lc] = csX p lg q la n lc := by subst h; rfl
end Go.Proofs.YtnkmlopjinihiaaDoor
