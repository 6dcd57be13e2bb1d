/- sakialaw18.TurnAlone returns true for every list, and changes nothing. -/
import Derived.Test.YtmjpdojecdnkjaaGreatTurnAlone
import Derived.Deep.WholeRow
namespace Go.Proofs.YtmjpdojecdnkjaaGreat
open Go.RowKit
set_option linter.unusedVariables false
set_option linter.unusedSimpArgs false
set_option maxHeartbeats 4000000

theorem wpList_store_made {P : Program} {ops : Array Oper} {rest : List Oper} {o : Oper} {a : Act} {w : World} {Q : Exit → Act → World → Prop} (hgd : o.guard = none) (ty : TypeId) (x y : Operand) (ho : o.op = .store ty x y)
    (w1 : World) (old cells cells' : Array Value) (hx : a.eval x = .pointer (some ⟨w1.heap.size, 0, none⟩)) (hy : a.eval y = .agg cells) (hw : w = w1.alloc (.cells old ty)) (hc : cells = cells') (hi : (P.info? ty).map (·.size) = some cells.size)
    (hold : old.size = cells.size) (h1 : cells.all (·.oneCell') = true)
    (h : wpList P ops Q rest (a.put o.dst undef) (w1.alloc (.cells cells' ty))) : wpList P ops Q (o :: rest) a w := by
  subst hw hc
  refine wpList_store_row hgd ty x y ho w1.heap.size cells hx hy ty old (heap_alloc_last _ _) hi hold h1 ?_
  rw [World.setRow_alloc_new]
  exact h
end Go.Proofs.YtmjpdojecdnkjaaGreat
