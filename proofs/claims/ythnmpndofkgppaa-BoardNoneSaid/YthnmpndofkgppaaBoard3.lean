/- The board's log handed out; sakiaref12.Same of two logs that are the same. -/
import Derived.Test.YthnmpndofkgppaaBoard2
import Derived.Test.YthnmpndofkgppaaNew
namespace Go.Proofs.Ythnmpndofkgppaa
open Go.RowKit
set_option linter.unusedVariables false
set_option linter.unusedSimpArgs false
set_option maxHeartbeats 2000000

theorem below_row {base : Nat} {a w w' : World} {row : Option Nat} (h : Below base a w) (hg : w.grownBy w' row) (hr : ∀ g, row = some g → base ≤ g) (hb : base ≤ w.heap.size) : Below base a w' :=
  ⟨hg.os.trans h.os, hg.tape.trans h.tape, hg.output.trans h.output, Nat.le_trans h.size hg.size, fun b hlt => (hg.block b (by omega) (fun e => by have := hr b e.symm; omega)).trans (h.block b hlt)⟩
theorem acc_one (l : List Acc) : ∀ u ∈ accVs l, u.oneCell' = true := by
  intro u hu
  simp only [accVs, List.mem_flatMap] at hu
  obtain ⟨a, _, ha⟩ := hu
  exact one_acc a u ha
theorem accVs_get {l : List Acc} : ∀ {k : Nat} {a : Acc}, l[k]? = some a → ∀ i, i < 5 → (accVs l)[k * 5 + i]? = (a.vs)[i]? := by
  induction l with
  | nil => intro k a h; simp at h
  | cons x l ih =>
    intro k a h i hi
    show (x.vs ++ accVs l)[k * 5 + i]? = _
    cases k with
    | zero =>
      obtain rfl : x = a := by simpa using h
      rw [List.getElem?_append_left (by simp [Acc.vs]; omega)]; simp
    | succ k =>
      rw [List.getElem?_append_right (by simp [Acc.vs]; omega)]
      have : (k + 1) * 5 + i - x.vs.length = k * 5 + i := by simp [Acc.vs]; omega
      rw [this]
      exact ih (by simpa using h) i hi
/-- an access of a log that reads -/
theorem acc_cells {w : World} {B : Nat} {A : Option Addr} {l : List Acc} (h : Reads w B 5 A l.length (accVs l)) {k : Nat} {a : Acc} (ha : l[k]? = some a) :
    ∃ g o, A = some ⟨g, o, none⟩ ∧ w.cell? ⟨g, o + k * 5, none⟩ = some (.int .i64 a.thread) ∧ w.cell? ⟨g, o + k * 5 + 1, none⟩ = some (.int .i64 a.kind) ∧ w.cell? ⟨g, o + k * 5 + 2, none⟩ = some (.int .i64 a.cell) ∧ w.cell? ⟨g, o + k * 5 + 3, none⟩ = some (.int .u64 a.old) ∧ w.cell? ⟨g, o + k * 5 + 4, none⟩ = some (.int .u64 a.new) := by
  have hk : k < l.length := (List.getElem?_eq_some_iff.1 ha).1
  obtain ⟨ad, rfl, _, hc⟩ := h.2 (by omega)
  have c0 := hc (k * 5 + 0) _ (accVs_get ha 0 (by omega))
  have c1 := hc (k * 5 + 1) _ (accVs_get ha 1 (by omega))
  have c2 := hc (k * 5 + 2) _ (accVs_get ha 2 (by omega))
  have c3 := hc (k * 5 + 3) _ (accVs_get ha 3 (by omega))
  have c4 := hc (k * 5 + 4) _ (accVs_get ha 4 (by omega))
  obtain ⟨b, o, s⟩ := ad
  have hz := hc 0 ((accVs l)[0]'(by rw [accVs_length]; omega)) (List.getElem?_eq_getElem _)
  have hs : s = none := by
    unfold World.cell? at hz
    split at hz
    · split at hz
      · cases hz
      · cases s
        · rfl
        · simp_all [Addr.add]
    · cases hz
  subst hs
  rw [add_lit] at c0 c1 c2 c3 c4
  exact ⟨b, o, rfl, c0, by rw [Nat.add_assoc]; exact c1, by rw [Nat.add_assoc]; exact c2, by rw [Nat.add_assoc]; exact c3, by rw [Nat.add_assoc]; exact c4⟩
theorem bLog64 (w : World) (γ : Nat → Nat) (id p : Nat) (b : BS) (h : BoardAt 88 22 92 .u64 w γ id p b) (hlen : b.log.length ≤ 1000000) :
    Calls Try.prog 19 #[.pointer (some ⟨p, 0, none⟩)] w fun e w' => ∃ v, e = .returned v ∧ w'.ownsRow w.heap.size 92 5 v b.log.length (accVs b.log) ∧ Below w.heap.size w w' := by
  obtain ⟨cv, dv, lv, hF⟩ := h
  have hq : w.cell? ⟨p, 16, none⟩ = some lv := hF.brd.cell 16
  have hpl := hF.brd.lt
  obtain ⟨A, c, rfl, _⟩ := own_form hF.log.1
  obtain ⟨i0, hi, hz0, hz1, hz2⟩ := info_parts acc_info
  have HI := Lib.hid (And.intro hi (And.intro hz0 (And.intro hz1 hz2)))
  have HRD := Lib.hid (Reads.of_own hF.log.1)
  have HLN := Lib.hid hlen
  clear hF hi hz0 hz1 hz2 hlen
  go_enter Try.func19, Try.ntmps19
  go_wp2_with (at_builtin
               refine wpList_append_any _ rfl (.tmp 5) (.tmp 9) 54 (by rfl) w.heap.size 92 i0 _ 5 40 Try.underlying54 HI.out.1 HI.out.2.1 HI.out.2.2.1 HI.out.2.2.2 rfl (by omega) _ 0 [] (by rfl) (World.ownsRow_made w #[] 0 (Nat.le_refl _) (by simp [maxLen]) rfl) w.heap.size A b.log.length c _ (by rfl) (HRD.out.alloc (Nat.le_refl _) _) (acc_one _) (by have := HLN.out; unfold maxLen; omega) (by have := HLN.out; omega) (by simp) ?_
               intro v w2 hown hgr hat
               have HO := Lib.hid (And.intro hown (below_row ((Below.refl w.heap.size w).alloc (Nat.le_refl _) _) hgr (fun g hg => by cases hg; exact Nat.le_refl _) (by simp)))
               clear hown hgr hat)
  go_ret
  exact ⟨v, rfl, by have := HO.out.1; simpa using this, HO.out.2⟩
end Go.Proofs.Ythnmpndofkgppaa
