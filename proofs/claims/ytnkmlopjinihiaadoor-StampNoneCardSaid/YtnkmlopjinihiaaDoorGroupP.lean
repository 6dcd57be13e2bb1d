/- Plain: sets of numbers below six as masks; who is ahead of nobody. No program, no memory. -/
import Derived.WalkKit
import Derived.Lib.TrailingZeros
namespace Go.Proofs.YtnkmlopjinihiaaDoor
open Go.RowKit
set_option linter.unusedVariables false

def fullM (n : Nat) : Nat := 2 ^ n - 1
def clrM (m i : Nat) : Nat := m &&& (63 - 2 ^ i)
/-- the numbers of a mask, rising -/
def bitsN (m : Nat) : List Nat := (List.range 6).filter (fun i => m.testBit i)
def bitsM (m : Nat) : List Int := (bitsN m).map Int.ofNat
/-- what is left above i -/
def aboveM (m i : Nat) : Nat := m &&& (63 - fullM (i + 1))
theorem fullM_bit : ∀ n < 7, ∀ j < 6, (fullM n).testBit j = decide (j < n) := by decide +kernel
theorem fullM_lt : ∀ n < 7, fullM n < 64 := by decide +kernel
theorem clrM_bit : ∀ m < 64, ∀ i < 6, ∀ j < 6, (clrM m i).testBit j = (m.testBit j && decide (j ≠ i)) := by decide +kernel
theorem clrM_lt : ∀ m < 64, ∀ i < 6, clrM m i < 64 := by decide +kernel
theorem aboveM_lt : ∀ m < 64, ∀ i < 6, aboveM m i < 64 := by decide +kernel
theorem bits_first : ∀ m < 64, (bitsN m)[0]? = if m = 0 then none else some (Lib.ctz 64 m) := by decide +kernel
theorem bits_next : ∀ m < 64, ∀ k < 6, ∀ i < 6, (bitsN m)[k]? = some i → (bitsN m)[k + 1]? = if aboveM m i = 0 then none else some (Lib.ctz 64 (aboveM m i)) := by decide +kernel
theorem bits_up : ∀ m < 64, ∀ k < 6, ∀ x ∈ bitsN m, (bitsN m)[k]? = some x → ∀ y ∈ (bitsN m).drop (k + 1), x < y := by decide +kernel
/-- the least of a mask, and whether there is one -/
def leastV (m : Nat) : Int := if m = 0 then 0 else (Lib.ctz 64 m : Nat)
def leastB (m : Nat) : Bool := decide (m ≠ 0)
theorem bitsN_len (m : Nat) : (bitsN m).length ≤ 6 := Nat.le_trans (List.length_filter_le _ _) (by simp)
theorem bitsN_lt {m i : Nat} (h : i ∈ bitsN m) : i < 6 := by have := (List.mem_filter.1 h).1; simpa using this
theorem first_b {m : Nat} (hm : m < 64) : leastB m = decide (0 < (bitsN m).length) ∧ ∀ x, (bitsN m)[0]? = some x → leastV m = (x : Nat) := by
  have h := bits_first m hm
  unfold leastB leastV
  by_cases h0 : m = 0
  · subst h0
    rw [if_pos rfl] at h
    exact ⟨by rw [decide_eq_false (by simp), decide_eq_false (by have := List.getElem?_eq_none_iff.1 h; omega)], fun x hx => by rw [h] at hx; cases hx⟩
  · rw [if_neg h0] at h ⊢
    exact ⟨by rw [decide_eq_true h0, decide_eq_true (List.getElem?_eq_some_iff.1 h).1], fun x hx => by rw [h] at hx; cases hx; rfl⟩
theorem next_b {m k i : Nat} (hm : m < 64) (hx : (bitsN m)[k]? = some i) : leastB (aboveM m i) = decide (k + 1 < (bitsN m).length) ∧ (∀ x, (bitsN m)[k + 1]? = some x → leastV (aboveM m i) = (x : Nat)) ∧ (∀ x, (bitsN m)[k + 1]? = some x → i < x ∧ x < 6) := by
  have hi := bitsN_lt (List.mem_of_getElem? hx)
  have hk : k < 6 := Nat.lt_of_lt_of_le (List.getElem?_eq_some_iff.1 hx).1 (bitsN_len m)
  have h := bits_next m hm k hk i hi hx
  refine ⟨?_, ?_, fun x hx2 => ⟨bits_up m hm k hk i (List.mem_of_getElem? hx) hx x (List.mem_of_getElem? (i := 0) (by rw [List.getElem?_drop]; exact hx2)), bitsN_lt (List.mem_of_getElem? hx2)⟩⟩
  · unfold leastB
    by_cases h0 : aboveM m i = 0
    · rw [if_pos h0] at h
      rw [decide_eq_false (by omega), decide_eq_false (by have := List.getElem?_eq_none_iff.1 h; omega)]
    · rw [if_neg h0] at h
      rw [decide_eq_true h0, decide_eq_true (List.getElem?_eq_some_iff.1 h).1]
  · intro x hx2
    unfold leastV
    by_cases h0 : aboveM m i = 0
    · rw [if_pos h0] at h; rw [h] at hx2; cases hx2
    · rw [if_neg h0] at h ⊢; rw [h] at hx2; cases hx2; rfl
def clrL (m : Nat) (l : List Int) : Nat := l.foldl (fun m c => clrM m c.toNat) m
def clrU (m : Nat) (up : List (List Int)) : Nat := up.foldl clrL m
/-- those that are ahead of nobody -/
def endsP (up : List (List Int)) : List Int := bitsM (clrU (fullM up.length) up)
theorem clrL_lt {l : List Int} (hl : ∀ c ∈ l, 0 ≤ c ∧ c < 6) : ∀ {m : Nat}, m < 64 → clrL m l < 64 := by
  induction l with
  | nil => intro m h; exact h
  | cons c l ih =>
    intro m h
    have hc := hl c (by simp)
    exact ih (fun x hx => hl x (by simp [hx])) (clrM_lt m h c.toNat (by omega))
theorem clrL_bit {l : List Int} (hl : ∀ c ∈ l, 0 ≤ c ∧ c < 6) : ∀ {m : Nat}, m < 64 → ∀ j < 6, (clrL m l).testBit j = (m.testBit j && decide ((j : Int) ∉ l)) := by
  induction l with
  | nil => intro m h j hj; simp [clrL]
  | cons c l ih =>
    intro m h j hj
    have hc := hl c (by simp)
    have e := ih (fun x hx => hl x (by simp [hx])) (clrM_lt m h c.toNat (by omega)) j hj
    show (clrL (clrM m c.toNat) l).testBit j = _
    rw [e, clrM_bit m h c.toNat (by omega) j hj, Bool.and_assoc]
    congr 1
    have e2 : (j ≠ c.toNat) ↔ ((j : Int) ≠ c) := by omega
    rw [Bool.eq_iff_iff]
    simp only [Bool.and_eq_true, decide_eq_true_eq, List.mem_cons, not_or]
    rw [e2]
theorem clrU_lt {up : List (List Int)} (hl : ∀ l ∈ up, ∀ c ∈ l, 0 ≤ c ∧ c < 6) : ∀ {m : Nat}, m < 64 → clrU m up < 64 := by
  induction up with
  | nil => intro m h; exact h
  | cons l up ih =>
    intro m h
    exact ih (fun x hx => hl x (by simp [hx])) (clrL_lt (hl l (by simp)) h)
theorem clrU_bit {up : List (List Int)} (hl : ∀ l ∈ up, ∀ c ∈ l, 0 ≤ c ∧ c < 6) : ∀ {m : Nat}, m < 64 → ∀ j < 6, (clrU m up).testBit j = (m.testBit j && decide (∀ l ∈ up, (j : Int) ∉ l)) := by
  induction up with
  | nil => intro m h j hj; simp [clrU]
  | cons l up ih =>
    intro m h j hj
    show (clrU (clrL m l) up).testBit j = _
    rw [ih (fun x hx => hl x (by simp [hx])) (clrL_lt (hl l (by simp)) h) j hj, clrL_bit (hl l (by simp)) h j hj, Bool.and_assoc]
    congr 1
    rw [Bool.eq_iff_iff]
    simp
theorem bitsN_mem {m i : Nat} : i ∈ bitsN m ↔ i < 6 ∧ m.testBit i = true := by unfold bitsN; simp
theorem endsP_mem {up : List (List Int)} (hn : up.length ≤ 6) (hl : ∀ l ∈ up, ∀ c ∈ l, 0 ≤ c ∧ c < 6) (x : Int) : x ∈ endsP up ↔ 0 ≤ x ∧ x < up.length ∧ ∀ l ∈ up, x ∉ l := by
  unfold endsP bitsM
  rw [List.mem_map]
  constructor
  · rintro ⟨i, hi, rfl⟩
    obtain ⟨h6, hb⟩ := bitsN_mem.1 hi
    rw [clrU_bit hl (fullM_lt _ (by omega)) i h6, fullM_bit _ (by omega) i h6] at hb
    simp only [Bool.and_eq_true, decide_eq_true_eq] at hb
    exact ⟨by simp, by simpa using hb.1, hb.2⟩
  · rintro ⟨h0, h1, h2⟩
    obtain ⟨n, rfl⟩ : ∃ n : Nat, x = n := ⟨x.toNat, by omega⟩
    refine ⟨n, bitsN_mem.2 ⟨by omega, ?_⟩, rfl⟩
    rw [clrU_bit hl (fullM_lt _ (by omega)) n (by omega), fullM_bit _ (by omega) n (by omega)]
    simp only [Bool.and_eq_true, decide_eq_true_eq]
    exact ⟨by omega, h2⟩
theorem endsP_in {up : List (List Int)} (hn : up.length ≤ 6) (hl : ∀ l ∈ up, ∀ c ∈ l, 0 ≤ c ∧ c < 6) : ∀ x ∈ endsP up, 0 ≤ x ∧ x < up.length := fun x hx => let h := (endsP_mem hn hl x).1 hx; ⟨h.1, h.2.1⟩
theorem take_next {α : Type} {l : List α} {k : Nat} {x : α} (h : l[k]? = some x) : l.take (k + 1) = l.take k ++ [x] := by rw [List.take_add_one, h]; rfl
theorem clrU_snoc (m : Nat) (up : List (List Int)) (l : List Int) : clrU m (up ++ [l]) = clrL (clrU m up) l := by simp [clrU]
theorem clrL_snoc (m : Nat) (l : List Int) (c : Int) : clrL m (l ++ [c]) = clrM (clrL m l) c.toNat := by simp [clrL]
theorem endsP_len (up : List (List Int)) : (endsP up).length ≤ 6 := by unfold endsP bitsM; rw [List.length_map]; exact bitsN_len _
end Go.Proofs.YtnkmlopjinihiaaDoor
