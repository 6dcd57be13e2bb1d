/- The plain functions: configurations, layouts. No program, no memory. -/
import Derived.Test.YtnkmlopjinihiaaDoorNum
namespace Go.Proofs.YtnkmlopjinihiaaDoor
open Go.RowKit

/-- A configuration as it lies in memory: its graph is a slice. -/
structure Cf where
  variant : Int
  width : Int
  cap : Int
  producers : Int
  start : Int
  ua : Option Addr
  un : Nat
  uc : Nat
def Cf.vs (c : Cf) : List Value := [.int .i64 c.variant, .int .i64 c.width, .int .i64 c.cap, .int .i64 c.producers, .int .u64 c.start, .slice c.ua c.un c.uc]
/-- A layout. -/
structure Lay where
  c : Cf
  cursor : Int
  claim : Int
  ticket : Int
  serving : Int
  next : Int
  marks : Int
  slots : Int
  cells : Int
def Lay.vs (l : Lay) : List Value := [.int .i64 l.c.variant, .int .i64 l.c.width, .int .i64 l.c.cap, .int .i64 l.c.producers, .int .u64 l.c.start, .slice l.c.ua l.c.un l.c.uc,
  .int .i64 l.cursor, .int .i64 l.claim, .int .i64 l.ticket, .int .i64 l.serving, .int .i64 l.next, .int .i64 l.marks, .int .i64 l.slots, .int .i64 l.cells]
/-- Within bounds in which nothing goes round. -/
structure Lay.Bd (l : Lay) : Prop where
  cap : 0 ≤ l.c.cap ∧ l.c.cap ≤ 64
  un : l.c.un ≤ 6
  marks : -1 ≤ l.marks ∧ l.marks ≤ 200
  slots : 0 ≤ l.slots ∧ l.slots ≤ 200
def Lay.There (l : Lay) (k : Int) : Prop := 0 < l.cells ∧ 0 ≤ k ∧ k < l.cells
instance (l : Lay) (k : Int) : Decidable (l.There k) := by unfold Lay.There; infer_instance
def Lay.kind (l : Lay) (k : Int) : Int := if ¬ (0 < l.cells ∧ 0 ≤ k ∧ k < l.cells) then 0 else if l.slots ≤ k then 3 else if 0 ≤ l.next ∧ l.next ≤ k then 2 else 1
def Lay.slotAt (l : Lay) (from_ s : Int) : Int := if 0 < l.cells ∧ 0 ≤ from_ ∧ 0 ≤ s ∧ s < l.c.cap then from_ + s else -1
def Lay.mark (l : Lay) (s : Int) : Int := l.slotAt l.marks s
def Lay.slot (l : Lay) (s : Int) : Int := l.slotAt l.slots s
def Lay.gate (l : Lay) (k : Int) : Int := if 0 < l.cells ∧ 0 ≤ k ∧ k < l.c.un then k else -1
def Lay.marked (l : Lay) (k : Int) : Bool := decide (0 ≤ l.marks ∧ l.marks ≤ k ∧ k < l.slots)
end Go.Proofs.YtnkmlopjinihiaaDoor
