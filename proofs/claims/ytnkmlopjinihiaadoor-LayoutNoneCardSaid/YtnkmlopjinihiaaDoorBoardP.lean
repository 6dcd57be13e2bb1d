/- Plain boards: what the accesses do to cells and log. No program, no memory. -/
import Derived.Test.YtnkmlopjinihiaaDoorConfP
namespace Go.Proofs.YtnkmlopjinihiaaDoor
open Go.RowKit

structure Acc where
  thread : Int
  kind : Int
  cell : Int
  old : Int
  new : Int
def Acc.vs (a : Acc) : List Value := [.int .i64 a.thread, .int .i64 a.kind, .int .i64 a.cell, .int .u64 a.old, .int .u64 a.new]
def accVs (l : List Acc) : List Value := l.flatMap Acc.vs
structure BS where
  l : Lay
  cells : List Int
  data : List Int
  log : List Acc
/-- what a board is made with -/
def newBS (l : Lay) : BS := ⟨l, (List.range l.slots.toNat).map (fun (k : Nat) => l.first (k : Int)), List.replicate l.c.cap.toNat 0, []⟩
theorem Lay.first_in {l : Lay} (hc : Cap2 l.c.cap) (k : Int) : InM (MW l.c.width) (l.first k) := by
  have h0 : InM (MW l.c.width) 0 := by unfold InM MW M32 M64; split <;> omega
  have hs : InM (MW l.c.width) (startI l.c) := by unfold startI InM cutM MW M32 M64; split <;> omega
  have hf : ∀ s x, InM (MW l.c.width) (firstI (MW l.c.width) l.c.cap s x) := fun s x => by unfold firstI addM InM MW M32 M64; split <;> omega
  have ha : ∀ s x, InM (MW l.c.width) (aheadI (MW l.c.width) l.c.cap s x) := fun s x => roundI_in hc (by unfold addM InM MW M32 M64; split <;> omega)
  unfold Lay.first
  split
  · exact h0
  · split
    · exact hs
    · split
      · exact hf _ _
      · exact ha _ _
theorem Lay.first_in' {c : Cf} (hc : Cap2 c.cap) (k : Int) : InM (MW c.width) ((mkLay c).first k) := by
  have := Lay.first_in (l := mkLay c) (by rw [mkLay_c]; exact hc) k
  rw [mkLay_c] at this
  exact this
theorem MW_32 : MW 32 = M32 := if_pos rfl
theorem MW_64 : MW 64 = M64 := if_neg (by decide)
theorem inM_u64_32 {x : Int} (h : InM M32 x) : 0 ≤ x ∧ x ≤ 18446744073709551615 := by have := bd32 h; omega
theorem inM_u64_64 {x : Int} (h : InM M64 x) : 0 ≤ x ∧ x ≤ 18446744073709551615 := bd64 h
theorem cut_id32 {x : Int} (h : InM M32 x) : cutM M32 x = x := by unfold InM M32 at h; unfold cutM M32; omega
theorem cut_id64 {x : Int} (h : InM M64 x) : cutM M64 x = x := by unfold InM M64 at h; unfold cutM M64; omega
theorem newBS_at (l : Lay) (k : Nat) (h : (k : Int) < l.slots) : (newBS l).cells[k]? = some (l.first (k : Int)) := by
  unfold newBS
  have h2 : k < l.slots.toNat := by omega
  simp [List.getElem?_map, List.getElem?_range h2]
theorem newBS_len (l : Lay) : (newBS l).cells.length = l.slots.toNat := by simp [newBS]
/-- a board is in order -/
structure BS.Ok (M : Int) (b : BS) : Prop where
  bd : b.l.Bd
  pos : 0 < b.l.cells
  all : b.l.cells = b.l.slots + b.l.c.cap
  nc : (b.cells.length : Int) = b.l.slots
  nd : (b.data.length : Int) = b.l.c.cap
  inM : ∀ x ∈ b.cells, InM M x
  dat : ∀ x ∈ b.data, -9223372036854775808 ≤ x ∧ x ≤ 9223372036854775807
def BS.at_ (b : BS) (k : Int) : Int := b.cells.getD k.toNat 0
def BS.note (b : BS) (t kind cell old new : Int) : BS := { b with log := b.log ++ [⟨t, kind, cell, old, new⟩] }
def BS.lay (b : BS) (t kind cell v : Int) : BS := { b with cells := b.cells.set cell.toNat v, log := b.log ++ [⟨t, kind, cell, b.at_ cell, v⟩] }
def BS.look (b : BS) (t kind cell : Int) : BS := b.note t kind cell (b.at_ cell) (b.at_ cell)
def BS.load (b : BS) (t k : Int) : Int × BS := if b.l.kind k = 1 then (b.at_ k, b.look t 1 k) else (0, b)
def BS.read (b : BS) (t k : Int) : Int × BS := if b.l.kind k = 2 then (b.at_ k, b.look t 6 k) else (0, b)
def BS.store (b : BS) (t k v : Int) : BS := if b.l.kind k = 1 then b.lay t 2 k v else b
def BS.write (b : BS) (t k v : Int) : BS := if b.l.kind k = 2 then b.lay t 7 k v else b
def BS.add (M : Int) (b : BS) (t k n : Int) : Int × BS := if b.l.kind k = 1 then (b.at_ k, b.lay t 3 k (addM M (b.at_ k) n)) else (0, b)
def BS.swap (b : BS) (t k old now : Int) : Bool × BS := if b.l.kind k = 1 then (if b.at_ k = old then (true, b.lay t 4 k now) else (false, b.look t 5 k)) else (false, b)
def u64I (x : Int) : Int := x % 18446744073709551616
def BS.datum (b : BS) (s : Int) : Int := b.data.getD s.toNat 0
def BS.get (b : BS) (t s : Int) : Int × BS := if 0 ≤ s ∧ s < b.data.length then (b.datum s, b.note t 6 (b.l.slot s) (u64I (b.datum s)) (u64I (b.datum s))) else (0, b)
def BS.put (b : BS) (t s v : Int) : BS := if 0 ≤ s ∧ s < b.data.length then { b with data := b.data.set s.toNat v, log := b.log ++ [⟨t, 7, b.l.slot s, u64I (b.datum s), u64I v⟩] } else b
def BS.peek (b : BS) (k : Int) : Int := if b.l.kind k = 0 then 0 else if k < b.cells.length then b.at_ k else u64I (b.datum (k - b.cells.length))
theorem BS.Ok.cell {M : Int} {b : BS} (h : b.Ok M) {k : Int} (hk : b.l.kind k = 1 ∨ b.l.kind k = 2) : ∃ n : Nat, k = n ∧ n < b.cells.length ∧ InM M (b.at_ k) := by
  have h1 := h.nc
  have h2 : 0 ≤ k ∧ k < b.l.slots := by
    unfold Lay.kind at hk
    split at hk
    · omega
    · split at hk
      · omega
      · rename_i h3 h4; omega
  refine ⟨k.toNat, by omega, by omega, ?_⟩
  unfold BS.at_
  have hl : k.toNat < b.cells.length := by omega
  rw [List.getD_eq_getElem?_getD, List.getElem?_eq_getElem hl]
  exact h.inM _ (List.getElem_mem hl)
theorem BS.Ok.note {M : Int} {b : BS} (h : b.Ok M) (t kind cell old new : Int) : (b.note t kind cell old new).Ok M := ⟨h.bd, h.pos, h.all, h.nc, h.nd, h.inM, h.dat⟩
theorem BS.Ok.look {M : Int} {b : BS} (h : b.Ok M) (t kind cell : Int) : (b.look t kind cell).Ok M := h.note _ _ _ _ _
theorem BS.Ok.lay {M : Int} {b : BS} (h : b.Ok M) (t kind cell : Int) {v : Int} (hv : InM M v) : (b.lay t kind cell v).Ok M :=
  ⟨h.bd, h.pos, h.all, by simpa [BS.lay] using h.nc, h.nd, fun x hx => by
    rcases List.mem_or_eq_of_mem_set hx with h1 | rfl
    · exact h.inM x h1
    · exact hv, h.dat⟩
end Go.Proofs.YtnkmlopjinihiaaDoor
