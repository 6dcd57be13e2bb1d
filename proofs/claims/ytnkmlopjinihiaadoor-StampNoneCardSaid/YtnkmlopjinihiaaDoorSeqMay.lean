/- Contracts of the sequencers' 'may', for each variant and both widths. -/
import Derived.Test.YtnkmlopjinihiaaDoorSeqP
import Derived.Test.YtnkmlopjinihiaaDoorBoard
namespace Go.Proofs.YtnkmlopjinihiaaDoor
open Go.RowKit
set_option linter.unusedVariables false
set_option linter.unusedSimpArgs false
set_option maxHeartbeats 4000000

theorem ret_boolM {a b : Bool} (h : a = b) : Ending.returned (.bool a) = .returned (.bool b) := by rw [h]
theorem may_one32 (w : World) (g fb o : Nat) (q : SqC) (f : FrS) (t : Int) (h5 : w.cell? ⟨g, 5, none⟩ = some (.int .i64 q.c.producers)) (h4 : w.cell? ⟨g, 4, none⟩ = some (.int .i64 q.c.cap)) (hn : w.cell? ⟨fb, o + 1, none⟩ = some (.int .i64 f.n)) :
    Calls Tryd.prog 177 #[.pointer (some ⟨g, 0, none⟩), .int .i64 t, .pointer (some ⟨fb, o, none⟩)] w fun e w' => e = .returned (.bool (mayP q t f)) ∧ ∃ m, w' = w.drewN m := by
  by_cases a0 : 0 ≤ t
  · by_cases a1 : t < q.c.producers
    · by_cases a2 : 1 ≤ f.n
      · by_cases a3 : f.n ≤ q.c.cap
        · have HH := Lib.hid (show mayP q t f = true from decide_eq_true ⟨a0, a1, a2, a3⟩)
          go_enter Tryd.func177, Tryd.ntmps177
          go_wp2_with fail
          go_quiet (fail)
          go_wp2_with fail
          go_ret
          exact ⟨ret_boolM HH.out.symm, _, rfl⟩
        · have HH := Lib.hid (show mayP q t f = false from decide_eq_false (fun h => a3 h.2.2.2))
          have hd : decide (f.n ≤ q.c.cap) = false := decide_eq_false a3
          clear a3
          go_enter Tryd.func177, Tryd.ntmps177
          go_wp2_with fail
          go_quiet (fail)
          go_wp2_with fail
          go_ret
          exact ⟨ret_boolM HH.out.symm, _, rfl⟩
      · have HH := Lib.hid (show mayP q t f = false from decide_eq_false (fun h => a2 h.2.2.1))
        have hd : decide (1 ≤ f.n) = false := decide_eq_false a2
        have hd2 : f.n < 1 := by omega
        clear a2
        go_enter Tryd.func177, Tryd.ntmps177
        go_wp2_with fail
        go_quiet (fail)
        go_wp2_with fail
        go_ret
        exact ⟨ret_boolM HH.out.symm, _, rfl⟩
    · have HH := Lib.hid (show mayP q t f = false from decide_eq_false (fun h => a1 h.2.1))
      have hd : decide (t < q.c.producers) = false := decide_eq_false a1
      clear a1
      go_enter Tryd.func177, Tryd.ntmps177
      go_wp2_with fail
      go_quiet (fail)
      go_wp2_with fail
      go_ret
      exact ⟨ret_boolM HH.out.symm, _, rfl⟩
  · have HH := Lib.hid (show mayP q t f = false from decide_eq_false (fun h => a0 h.1))
    have hd : decide (0 ≤ t) = false := decide_eq_false a0
    have hd2 : t < 0 := by omega
    clear a0
    go_enter Tryd.func177, Tryd.ntmps177
    go_wp2_with fail
    go_quiet (fail)
    go_wp2_with fail
    go_ret
    exact ⟨ret_boolM HH.out.symm, _, rfl⟩
theorem mayN_one32 (w : World) (gv fv : Option Addr) (hn : gv = none ∨ fv = none) (t : Int) :
    Calls Tryd.prog 177 #[.pointer gv, .int .i64 t, .pointer fv] w fun e w' => e = .returned (.bool false) ∧ ∃ m, w' = w.drewN m := by
  cases gv with
  | none =>
    go_enter Tryd.func177, Tryd.ntmps177
    go_wp2_with fail
    go_quiet (fail)
    go_wp2_with fail
    go_ret
    exact ⟨rfl, _, rfl⟩
  | some a =>
    rcases hn with h | rfl
    · cases h
    · go_enter Tryd.func177, Tryd.ntmps177
      go_wp2_with fail
      go_quiet (fail)
      go_wp2_with fail
      go_ret
      exact ⟨rfl, _, rfl⟩
theorem may_cas32 (w : World) (g fb o : Nat) (q : SqC) (f : FrS) (t : Int) (h5 : w.cell? ⟨g, 5, none⟩ = some (.int .i64 q.c.producers)) (h4 : w.cell? ⟨g, 4, none⟩ = some (.int .i64 q.c.cap)) (hn : w.cell? ⟨fb, o + 1, none⟩ = some (.int .i64 f.n)) :
    Calls Tryd.prog 144 #[.pointer (some ⟨g, 0, none⟩), .int .i64 t, .pointer (some ⟨fb, o, none⟩)] w fun e w' => e = .returned (.bool (mayP q t f)) ∧ ∃ m, w' = w.drewN m := by
  by_cases a0 : 0 ≤ t
  · by_cases a1 : t < q.c.producers
    · by_cases a2 : 1 ≤ f.n
      · by_cases a3 : f.n ≤ q.c.cap
        · have HH := Lib.hid (show mayP q t f = true from decide_eq_true ⟨a0, a1, a2, a3⟩)
          go_enter Tryd.func144, Tryd.ntmps144
          go_wp2_with fail
          go_quiet (fail)
          go_wp2_with fail
          go_ret
          exact ⟨ret_boolM HH.out.symm, _, rfl⟩
        · have HH := Lib.hid (show mayP q t f = false from decide_eq_false (fun h => a3 h.2.2.2))
          have hd : decide (f.n ≤ q.c.cap) = false := decide_eq_false a3
          clear a3
          go_enter Tryd.func144, Tryd.ntmps144
          go_wp2_with fail
          go_quiet (fail)
          go_wp2_with fail
          go_ret
          exact ⟨ret_boolM HH.out.symm, _, rfl⟩
      · have HH := Lib.hid (show mayP q t f = false from decide_eq_false (fun h => a2 h.2.2.1))
        have hd : decide (1 ≤ f.n) = false := decide_eq_false a2
        have hd2 : f.n < 1 := by omega
        clear a2
        go_enter Tryd.func144, Tryd.ntmps144
        go_wp2_with fail
        go_quiet (fail)
        go_wp2_with fail
        go_ret
        exact ⟨ret_boolM HH.out.symm, _, rfl⟩
    · have HH := Lib.hid (show mayP q t f = false from decide_eq_false (fun h => a1 h.2.1))
      have hd : decide (t < q.c.producers) = false := decide_eq_false a1
      clear a1
      go_enter Tryd.func144, Tryd.ntmps144
      go_wp2_with fail
      go_quiet (fail)
      go_wp2_with fail
      go_ret
      exact ⟨ret_boolM HH.out.symm, _, rfl⟩
  · have HH := Lib.hid (show mayP q t f = false from decide_eq_false (fun h => a0 h.1))
    have hd : decide (0 ≤ t) = false := decide_eq_false a0
    have hd2 : t < 0 := by omega
    clear a0
    go_enter Tryd.func144, Tryd.ntmps144
    go_wp2_with fail
    go_quiet (fail)
    go_wp2_with fail
    go_ret
    exact ⟨ret_boolM HH.out.symm, _, rfl⟩
theorem mayN_cas32 (w : World) (gv fv : Option Addr) (hn : gv = none ∨ fv = none) (t : Int) :
    Calls Tryd.prog 144 #[.pointer gv, .int .i64 t, .pointer fv] w fun e w' => e = .returned (.bool false) ∧ ∃ m, w' = w.drewN m := by
  cases gv with
  | none =>
    go_enter Tryd.func144, Tryd.ntmps144
    go_wp2_with fail
    go_quiet (fail)
    go_wp2_with fail
    go_ret
    exact ⟨rfl, _, rfl⟩
  | some a =>
    rcases hn with h | rfl
    · cases h
    · go_enter Tryd.func144, Tryd.ntmps144
      go_wp2_with fail
      go_quiet (fail)
      go_wp2_with fail
      go_ret
      exact ⟨rfl, _, rfl⟩
theorem may_faa32 (w : World) (g fb o : Nat) (q : SqC) (f : FrS) (t : Int) (h5 : w.cell? ⟨g, 5, none⟩ = some (.int .i64 q.c.producers)) (h4 : w.cell? ⟨g, 4, none⟩ = some (.int .i64 q.c.cap)) (hn : w.cell? ⟨fb, o + 1, none⟩ = some (.int .i64 f.n)) :
    Calls Tryd.prog 139 #[.pointer (some ⟨g, 0, none⟩), .int .i64 t, .pointer (some ⟨fb, o, none⟩)] w fun e w' => e = .returned (.bool (mayP q t f)) ∧ ∃ m, w' = w.drewN m := by
  by_cases a0 : 0 ≤ t
  · by_cases a1 : t < q.c.producers
    · by_cases a2 : 1 ≤ f.n
      · by_cases a3 : f.n ≤ q.c.cap
        · have HH := Lib.hid (show mayP q t f = true from decide_eq_true ⟨a0, a1, a2, a3⟩)
          go_enter Tryd.func139, Tryd.ntmps139
          go_wp2_with fail
          go_quiet (fail)
          go_wp2_with fail
          go_ret
          exact ⟨ret_boolM HH.out.symm, _, rfl⟩
        · have HH := Lib.hid (show mayP q t f = false from decide_eq_false (fun h => a3 h.2.2.2))
          have hd : decide (f.n ≤ q.c.cap) = false := decide_eq_false a3
          clear a3
          go_enter Tryd.func139, Tryd.ntmps139
          go_wp2_with fail
          go_quiet (fail)
          go_wp2_with fail
          go_ret
          exact ⟨ret_boolM HH.out.symm, _, rfl⟩
      · have HH := Lib.hid (show mayP q t f = false from decide_eq_false (fun h => a2 h.2.2.1))
        have hd : decide (1 ≤ f.n) = false := decide_eq_false a2
        have hd2 : f.n < 1 := by omega
        clear a2
        go_enter Tryd.func139, Tryd.ntmps139
        go_wp2_with fail
        go_quiet (fail)
        go_wp2_with fail
        go_ret
        exact ⟨ret_boolM HH.out.symm, _, rfl⟩
    · have HH := Lib.hid (show mayP q t f = false from decide_eq_false (fun h => a1 h.2.1))
      have hd : decide (t < q.c.producers) = false := decide_eq_false a1
      clear a1
      go_enter Tryd.func139, Tryd.ntmps139
      go_wp2_with fail
      go_quiet (fail)
      go_wp2_with fail
      go_ret
      exact ⟨ret_boolM HH.out.symm, _, rfl⟩
  · have HH := Lib.hid (show mayP q t f = false from decide_eq_false (fun h => a0 h.1))
    have hd : decide (0 ≤ t) = false := decide_eq_false a0
    have hd2 : t < 0 := by omega
    clear a0
    go_enter Tryd.func139, Tryd.ntmps139
    go_wp2_with fail
    go_quiet (fail)
    go_wp2_with fail
    go_ret
    exact ⟨ret_boolM HH.out.symm, _, rfl⟩
theorem mayN_faa32 (w : World) (gv fv : Option Addr) (hn : gv = none ∨ fv = none) (t : Int) :
    Calls Tryd.prog 139 #[.pointer gv, .int .i64 t, .pointer fv] w fun e w' => e = .returned (.bool false) ∧ ∃ m, w' = w.drewN m := by
  cases gv with
  | none =>
    go_enter Tryd.func139, Tryd.ntmps139
    go_wp2_with fail
    go_quiet (fail)
    go_wp2_with fail
    go_ret
    exact ⟨rfl, _, rfl⟩
  | some a =>
    rcases hn with h | rfl
    · cases h
    · go_enter Tryd.func139, Tryd.ntmps139
      go_wp2_with fail
      go_quiet (fail)
      go_wp2_with fail
      go_ret
      exact ⟨rfl, _, rfl⟩
theorem may_stamp32 (w : World) (g fb o : Nat) (q : SqC) (f : FrS) (t : Int) (h5 : w.cell? ⟨g, 5, none⟩ = some (.int .i64 q.c.producers)) (h4 : w.cell? ⟨g, 4, none⟩ = some (.int .i64 q.c.cap)) (hn : w.cell? ⟨fb, o + 1, none⟩ = some (.int .i64 f.n)) :
    Calls Tryd.prog 132 #[.pointer (some ⟨g, 0, none⟩), .int .i64 t, .pointer (some ⟨fb, o, none⟩)] w fun e w' => e = .returned (.bool (mayP q t f)) ∧ ∃ m, w' = w.drewN m := by
  by_cases a0 : 0 ≤ t
  · by_cases a1 : t < q.c.producers
    · by_cases a2 : 1 ≤ f.n
      · by_cases a3 : f.n ≤ q.c.cap
        · have HH := Lib.hid (show mayP q t f = true from decide_eq_true ⟨a0, a1, a2, a3⟩)
          go_enter Tryd.func132, Tryd.ntmps132
          go_wp2_with fail
          go_quiet (fail)
          go_wp2_with fail
          go_ret
          exact ⟨ret_boolM HH.out.symm, _, rfl⟩
        · have HH := Lib.hid (show mayP q t f = false from decide_eq_false (fun h => a3 h.2.2.2))
          have hd : decide (f.n ≤ q.c.cap) = false := decide_eq_false a3
          clear a3
          go_enter Tryd.func132, Tryd.ntmps132
          go_wp2_with fail
          go_quiet (fail)
          go_wp2_with fail
          go_ret
          exact ⟨ret_boolM HH.out.symm, _, rfl⟩
      · have HH := Lib.hid (show mayP q t f = false from decide_eq_false (fun h => a2 h.2.2.1))
        have hd : decide (1 ≤ f.n) = false := decide_eq_false a2
        have hd2 : f.n < 1 := by omega
        clear a2
        go_enter Tryd.func132, Tryd.ntmps132
        go_wp2_with fail
        go_quiet (fail)
        go_wp2_with fail
        go_ret
        exact ⟨ret_boolM HH.out.symm, _, rfl⟩
    · have HH := Lib.hid (show mayP q t f = false from decide_eq_false (fun h => a1 h.2.1))
      have hd : decide (t < q.c.producers) = false := decide_eq_false a1
      clear a1
      go_enter Tryd.func132, Tryd.ntmps132
      go_wp2_with fail
      go_quiet (fail)
      go_wp2_with fail
      go_ret
      exact ⟨ret_boolM HH.out.symm, _, rfl⟩
  · have HH := Lib.hid (show mayP q t f = false from decide_eq_false (fun h => a0 h.1))
    have hd : decide (0 ≤ t) = false := decide_eq_false a0
    have hd2 : t < 0 := by omega
    clear a0
    go_enter Tryd.func132, Tryd.ntmps132
    go_wp2_with fail
    go_quiet (fail)
    go_wp2_with fail
    go_ret
    exact ⟨ret_boolM HH.out.symm, _, rfl⟩
theorem mayN_stamp32 (w : World) (gv fv : Option Addr) (hn : gv = none ∨ fv = none) (t : Int) :
    Calls Tryd.prog 132 #[.pointer gv, .int .i64 t, .pointer fv] w fun e w' => e = .returned (.bool false) ∧ ∃ m, w' = w.drewN m := by
  cases gv with
  | none =>
    go_enter Tryd.func132, Tryd.ntmps132
    go_wp2_with fail
    go_quiet (fail)
    go_wp2_with fail
    go_ret
    exact ⟨rfl, _, rfl⟩
  | some a =>
    rcases hn with h | rfl
    · cases h
    · go_enter Tryd.func132, Tryd.ntmps132
      go_wp2_with fail
      go_quiet (fail)
      go_wp2_with fail
      go_ret
      exact ⟨rfl, _, rfl⟩
theorem may_lock32 (w : World) (g fb o : Nat) (q : SqC) (f : FrS) (t : Int) (h5 : w.cell? ⟨g, 5, none⟩ = some (.int .i64 q.c.producers)) (h4 : w.cell? ⟨g, 4, none⟩ = some (.int .i64 q.c.cap)) (hn : w.cell? ⟨fb, o + 1, none⟩ = some (.int .i64 f.n)) :
    Calls Tryd.prog 146 #[.pointer (some ⟨g, 0, none⟩), .int .i64 t, .pointer (some ⟨fb, o, none⟩)] w fun e w' => e = .returned (.bool (mayP q t f)) ∧ ∃ m, w' = w.drewN m := by
  by_cases a0 : 0 ≤ t
  · by_cases a1 : t < q.c.producers
    · by_cases a2 : 1 ≤ f.n
      · by_cases a3 : f.n ≤ q.c.cap
        · have HH := Lib.hid (show mayP q t f = true from decide_eq_true ⟨a0, a1, a2, a3⟩)
          go_enter Tryd.func146, Tryd.ntmps146
          go_wp2_with fail
          go_quiet (fail)
          go_wp2_with fail
          go_ret
          exact ⟨ret_boolM HH.out.symm, _, rfl⟩
        · have HH := Lib.hid (show mayP q t f = false from decide_eq_false (fun h => a3 h.2.2.2))
          have hd : decide (f.n ≤ q.c.cap) = false := decide_eq_false a3
          clear a3
          go_enter Tryd.func146, Tryd.ntmps146
          go_wp2_with fail
          go_quiet (fail)
          go_wp2_with fail
          go_ret
          exact ⟨ret_boolM HH.out.symm, _, rfl⟩
      · have HH := Lib.hid (show mayP q t f = false from decide_eq_false (fun h => a2 h.2.2.1))
        have hd : decide (1 ≤ f.n) = false := decide_eq_false a2
        have hd2 : f.n < 1 := by omega
        clear a2
        go_enter Tryd.func146, Tryd.ntmps146
        go_wp2_with fail
        go_quiet (fail)
        go_wp2_with fail
        go_ret
        exact ⟨ret_boolM HH.out.symm, _, rfl⟩
    · have HH := Lib.hid (show mayP q t f = false from decide_eq_false (fun h => a1 h.2.1))
      have hd : decide (t < q.c.producers) = false := decide_eq_false a1
      clear a1
      go_enter Tryd.func146, Tryd.ntmps146
      go_wp2_with fail
      go_quiet (fail)
      go_wp2_with fail
      go_ret
      exact ⟨ret_boolM HH.out.symm, _, rfl⟩
  · have HH := Lib.hid (show mayP q t f = false from decide_eq_false (fun h => a0 h.1))
    have hd : decide (0 ≤ t) = false := decide_eq_false a0
    have hd2 : t < 0 := by omega
    clear a0
    go_enter Tryd.func146, Tryd.ntmps146
    go_wp2_with fail
    go_quiet (fail)
    go_wp2_with fail
    go_ret
    exact ⟨ret_boolM HH.out.symm, _, rfl⟩
theorem mayN_lock32 (w : World) (gv fv : Option Addr) (hn : gv = none ∨ fv = none) (t : Int) :
    Calls Tryd.prog 146 #[.pointer gv, .int .i64 t, .pointer fv] w fun e w' => e = .returned (.bool false) ∧ ∃ m, w' = w.drewN m := by
  cases gv with
  | none =>
    go_enter Tryd.func146, Tryd.ntmps146
    go_wp2_with fail
    go_quiet (fail)
    go_wp2_with fail
    go_ret
    exact ⟨rfl, _, rfl⟩
  | some a =>
    rcases hn with h | rfl
    · cases h
    · go_enter Tryd.func146, Tryd.ntmps146
      go_wp2_with fail
      go_quiet (fail)
      go_wp2_with fail
      go_ret
      exact ⟨rfl, _, rfl⟩
theorem may_one64 (w : World) (g fb o : Nat) (q : SqC) (f : FrS) (t : Int) (h5 : w.cell? ⟨g, 5, none⟩ = some (.int .i64 q.c.producers)) (h4 : w.cell? ⟨g, 4, none⟩ = some (.int .i64 q.c.cap)) (hn : w.cell? ⟨fb, o + 1, none⟩ = some (.int .i64 f.n)) :
    Calls Tryd.prog 125 #[.pointer (some ⟨g, 0, none⟩), .int .i64 t, .pointer (some ⟨fb, o, none⟩)] w fun e w' => e = .returned (.bool (mayP q t f)) ∧ ∃ m, w' = w.drewN m := by
  by_cases a0 : 0 ≤ t
  · by_cases a1 : t < q.c.producers
    · by_cases a2 : 1 ≤ f.n
      · by_cases a3 : f.n ≤ q.c.cap
        · have HH := Lib.hid (show mayP q t f = true from decide_eq_true ⟨a0, a1, a2, a3⟩)
          go_enter Tryd.func125, Tryd.ntmps125
          go_wp2_with fail
          go_quiet (fail)
          go_wp2_with fail
          go_ret
          exact ⟨ret_boolM HH.out.symm, _, rfl⟩
        · have HH := Lib.hid (show mayP q t f = false from decide_eq_false (fun h => a3 h.2.2.2))
          have hd : decide (f.n ≤ q.c.cap) = false := decide_eq_false a3
          clear a3
          go_enter Tryd.func125, Tryd.ntmps125
          go_wp2_with fail
          go_quiet (fail)
          go_wp2_with fail
          go_ret
          exact ⟨ret_boolM HH.out.symm, _, rfl⟩
      · have HH := Lib.hid (show mayP q t f = false from decide_eq_false (fun h => a2 h.2.2.1))
        have hd : decide (1 ≤ f.n) = false := decide_eq_false a2
        have hd2 : f.n < 1 := by omega
        clear a2
        go_enter Tryd.func125, Tryd.ntmps125
        go_wp2_with fail
        go_quiet (fail)
        go_wp2_with fail
        go_ret
        exact ⟨ret_boolM HH.out.symm, _, rfl⟩
    · have HH := Lib.hid (show mayP q t f = false from decide_eq_false (fun h => a1 h.2.1))
      have hd : decide (t < q.c.producers) = false := decide_eq_false a1
      clear a1
      go_enter Tryd.func125, Tryd.ntmps125
      go_wp2_with fail
      go_quiet (fail)
      go_wp2_with fail
      go_ret
      exact ⟨ret_boolM HH.out.symm, _, rfl⟩
  · have HH := Lib.hid (show mayP q t f = false from decide_eq_false (fun h => a0 h.1))
    have hd : decide (0 ≤ t) = false := decide_eq_false a0
    have hd2 : t < 0 := by omega
    clear a0
    go_enter Tryd.func125, Tryd.ntmps125
    go_wp2_with fail
    go_quiet (fail)
    go_wp2_with fail
    go_ret
    exact ⟨ret_boolM HH.out.symm, _, rfl⟩
theorem mayN_one64 (w : World) (gv fv : Option Addr) (hn : gv = none ∨ fv = none) (t : Int) :
    Calls Tryd.prog 125 #[.pointer gv, .int .i64 t, .pointer fv] w fun e w' => e = .returned (.bool false) ∧ ∃ m, w' = w.drewN m := by
  cases gv with
  | none =>
    go_enter Tryd.func125, Tryd.ntmps125
    go_wp2_with fail
    go_quiet (fail)
    go_wp2_with fail
    go_ret
    exact ⟨rfl, _, rfl⟩
  | some a =>
    rcases hn with h | rfl
    · cases h
    · go_enter Tryd.func125, Tryd.ntmps125
      go_wp2_with fail
      go_quiet (fail)
      go_wp2_with fail
      go_ret
      exact ⟨rfl, _, rfl⟩
end Go.Proofs.YtnkmlopjinihiaaDoor
