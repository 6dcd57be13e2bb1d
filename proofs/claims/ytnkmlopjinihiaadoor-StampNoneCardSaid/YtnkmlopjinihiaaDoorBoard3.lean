/- The board's log handed out; sakiaref12.Same of two logs that are the same. -/
import Derived.Test.YtnkmlopjinihiaaDoorBoard2
import Derived.Test.YtnkmlopjinihiaaDoorNew
namespace Go.Proofs.YtnkmlopjinihiaaDoor
open Go.RowKit
set_option linter.unusedVariables false
set_option linter.unusedSimpArgs false
set_option maxHeartbeats 2000000

theorem below_row {base : Nat} {a w w' : World} {row : Option Nat} (h : Below base a w) (hg : w.grownBy w' row) (hr : ∀ g, row = some g → base ≤ g) (hb : base ≤ w.heap.size) : Below base a w' :=
  ⟨hg.os.trans h.os, hg.tape.trans h.tape, hg.output.trans h.output, Nat.le_trans h.size hg.size, fun b hlt => (hg.block b (by omega) (fun e => by have := hr b e.symm; omega)).trans (h.block b hlt)⟩
theorem acc_one (l : List Acc) : ∀ u ∈ accVs l, u.oneCell' = true := by
  intro u hu
  simp only [accVs, List.mem_flatMap] at hu
  obtain ⟨a, _, ha⟩ := hu
  exact one_acc a u ha
theorem accVs_get {l : List Acc} : ∀ {k : Nat} {a : Acc}, l[k]? = some a → ∀ i, i < 5 → (accVs l)[k * 5 + i]? = (a.vs)[i]? := by
  induction l with
  | nil => intro k a h; simp at h
  | cons x l ih =>
    intro k a h i hi
    show (x.vs ++ accVs l)[k * 5 + i]? = _
    cases k with
    | zero =>
      obtain rfl : x = a := by simpa using h
      rw [List.getElem?_append_left (by simp [Acc.vs]; omega)]; simp
    | succ k =>
      rw [List.getElem?_append_right (by simp [Acc.vs]; omega)]
      have : (k + 1) * 5 + i - x.vs.length = k * 5 + i := by simp [Acc.vs]; omega
      rw [this]
      exact ih (by simpa using h) i hi
/-- an access of a log that reads -/
theorem acc_cells {w : World} {B : Nat} {A : Option Addr} {l : List Acc} (h : Reads w B 5 A l.length (accVs l)) {k : Nat} {a : Acc} (ha : l[k]? = some a) :
    ∃ g o, A = some ⟨g, o, none⟩ ∧ w.cell? ⟨g, o + k * 5, none⟩ = some (.int .i64 a.thread) ∧ w.cell? ⟨g, o + k * 5 + 1, none⟩ = some (.int .i64 a.kind) ∧ w.cell? ⟨g, o + k * 5 + 2, none⟩ = some (.int .i64 a.cell) ∧ w.cell? ⟨g, o + k * 5 + 3, none⟩ = some (.int .u64 a.old) ∧ w.cell? ⟨g, o + k * 5 + 4, none⟩ = some (.int .u64 a.new) := by
  have hk : k < l.length := (List.getElem?_eq_some_iff.1 ha).1
  obtain ⟨ad, rfl, _, hc⟩ := h.2 (by omega)
  have c0 := hc (k * 5 + 0) _ (accVs_get ha 0 (by omega))
  have c1 := hc (k * 5 + 1) _ (accVs_get ha 1 (by omega))
  have c2 := hc (k * 5 + 2) _ (accVs_get ha 2 (by omega))
  have c3 := hc (k * 5 + 3) _ (accVs_get ha 3 (by omega))
  have c4 := hc (k * 5 + 4) _ (accVs_get ha 4 (by omega))
  obtain ⟨b, o, s⟩ := ad
  have hz := hc 0 ((accVs l)[0]'(by rw [accVs_length]; omega)) (List.getElem?_eq_getElem _)
  have hs : s = none := by
    unfold World.cell? at hz
    split at hz
    · split at hz
      · cases hz
      · cases s
        · rfl
        · simp_all [Addr.add]
    · cases hz
  subst hs
  rw [add_lit] at c0 c1 c2 c3 c4
  exact ⟨b, o, rfl, c0, by rw [Nat.add_assoc]; exact c1, by rw [Nat.add_assoc]; exact c2, by rw [Nat.add_assoc]; exact c3, by rw [Nat.add_assoc]; exact c4⟩
end Go.Proofs.YtnkmlopjinihiaaDoor
