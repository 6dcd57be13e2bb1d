/- Plain configurations: what is wrong with one. No program, no memory. -/
import Derived.Test.YtnkmlopjinihiaaDoorPlain
import Derived.Test.YtnkmlopjinihiaaDoorGraphP
namespace Go.Proofs.YtnkmlopjinihiaaDoor
open Go.RowKit

def capP (c : Int) : Prop := ∃ k : Nat, 1 ≤ k ∧ k ≤ 30 ∧ c = 2 ^ k
noncomputable instance capP_dec (c : Int) : Decidable (capP c) := Classical.propDecidable _
/-- what is wrong with a configuration, whose graph is up -/
noncomputable def confCode (c : Cf) (up : List (List Int)) : Int :=
  if c.variant < 1 ∨ 5 < c.variant then 2 else if ¬ (c.width = 32 ∨ c.width = 64) then 3 else if ¬ capP c.cap then 4
  else if c.producers < 1 ∨ 4 < c.producers ∨ (c.variant = 1 ∧ 1 < c.producers) then 5 else if graphCode up ≠ 0 then graphCode up
  else if c.width = 32 ∧ 2147483648 ≤ (c.producers + 2) * c.cap then 9 else if 64 < c.cap then 10 else 0
/-- a configuration that may be -/
structure CfOk (c : Cf) (up : List (List Int)) : Prop where
  variant : 1 ≤ c.variant ∧ c.variant ≤ 5
  width : c.width = 32 ∨ c.width = 64
  cap : Cap2 c.cap
  producers : 1 ≤ c.producers ∧ c.producers ≤ 4
  one : c.variant = 1 → c.producers = 1
  up : UpOk up
theorem capP_small {c : Int} (h : capP c) (h' : c ≤ 64) : Cap2 c := by
  obtain ⟨k, h1, h2, rfl⟩ := h
  have hk : k ≤ 6 := by
    rcases Nat.lt_or_ge 6 k with h3 | h3
    · have : (2 : Int) ^ 7 ≤ 2 ^ k := by exact_mod_cast Nat.pow_le_pow_right (by omega) h3
      omega
    · exact h3
  unfold Cap2
  have : k = 1 ∨ k = 2 ∨ k = 3 ∨ k = 4 ∨ k = 5 ∨ k = 6 := by omega
  rcases this with rfl | rfl | rfl | rfl | rfl | rfl <;> simp
theorem Cap2.capP {c : Int} (h : Cap2 c) : capP c := by
  rcases h with rfl | rfl | rfl | rfl | rfl | rfl
  · exact ⟨1, by omega, by omega, rfl⟩
  · exact ⟨2, by omega, by omega, rfl⟩
  · exact ⟨3, by omega, by omega, rfl⟩
  · exact ⟨4, by omega, by omega, rfl⟩
  · exact ⟨5, by omega, by omega, rfl⟩
  · exact ⟨6, by omega, by omega, rfl⟩
theorem cfOk_of_code {c : Cf} {up : List (List Int)} (h : confCode c up = 0) : CfOk c up := by
  unfold confCode at h
  split at h
  · omega
  · split at h
    · omega
    · split at h
      · omega
      · split at h
        · omega
        · split at h
          · omega
          · split at h
            · omega
            · split at h
              · omega
              · rename_i h1 h2 h3 h4 h5 h6 h7
                exact ⟨by omega, Classical.byContradiction h2, capP_small (Classical.byContradiction h3) (by omega), by omega, fun hv => by omega, upOk_of_code (Classical.byContradiction h5)⟩
theorem code_of_cfOk {c : Cf} {up : List (List Int)} (h : CfOk c up) : confCode c up = 0 := by
  have h1 := h.variant
  have h2 := h.width
  have h3 := h.cap.bd
  have h4 := h.producers
  have h5 := h.one
  have h6 : c.producers * c.cap ≤ 4 * 64 := Int.mul_le_mul h4.2 h3.2 (by omega) (by omega)
  have h7 : (c.producers + 2) * c.cap = c.producers * c.cap + 2 * c.cap := by rw [Int.add_mul]
  unfold confCode
  rw [if_neg (by omega), if_neg (by intro hn; exact hn h2), if_neg (by intro hn; exact hn h.cap.capP), if_neg (by omega), if_neg (by rw [code_of_upOk h.up]; simp), if_neg (by omega), if_neg (by omega)]
theorem pow_i (k : Nat) : ((2 ^ k : Nat) : Int) = 2 ^ k := by simp [Int.natCast_pow]
/-- where the search for a power of two ends -/
theorem capP_iff_end {c : Int} {n k : Nat} (hn : n = 2 ^ k) (h1 : 1 ≤ k) (h30 : k ≤ 30) (hlow : k = 1 ∨ ((2 ^ (k - 1) : Nat) : Int) < c) (hend : c ≤ n ∨ k = 30) : ((n : Int) == c) = decide (capP c) := by
  rw [Bool.eq_iff_iff]
  simp only [beq_iff_eq, decide_eq_true_eq]
  constructor
  · intro h
    exact ⟨k, h1, h30, by rw [← h, hn, pow_i]⟩
  · rintro ⟨j, hj1, hj2, hc⟩
    rw [← pow_i] at hc
    have hjk : j = k := by
      rcases Nat.lt_trichotomy j k with h | h | h
      · rcases hlow with h3 | h3
        · omega
        · have : 2 ^ j ≤ 2 ^ (k - 1) := Nat.pow_le_pow_right (by omega) (by omega)
          omega
      · exact h
      · rcases hend with h3 | h3
        · have : 2 ^ k < 2 ^ j := Nat.pow_lt_pow_right (by omega) h
          omega
        · omega
    subst hjk
    omega
/-- no two bits beside each other: a power of two -/
theorem pow2_and (k : Nat) : ∀ x : Nat, 0 < x → x < 2 ^ k → (x &&& (x - 1) = 0 ↔ ∃ j, x = 2 ^ j) := by
  induction k with
  | zero => intro x h1 h2; simp at h2; omega
  | succ k ih =>
    intro x h1 h2
    have hz : (x &&& (x - 1)) / 2 = (x / 2) &&& ((x - 1) / 2) := Nat.and_div_two
    rcases Nat.mod_two_eq_zero_or_one x with he | ho
    · have hy : 0 < x / 2 := by omega
      have h3 := ih (x / 2) hy (by rw [Nat.pow_succ] at h2; omega)
      have h4 : (x - 1) / 2 = x / 2 - 1 := by omega
      have h5 : (x &&& (x - 1)) % 2 = 0 := by
        have h6 := Nat.and_mod_two_pow (a := x) (b := x - 1) (n := 1)
        rw [Nat.pow_one] at h6
        rw [h6, he]; simp
      rw [h4] at hz
      constructor
      · intro h
        rw [h] at hz
        obtain ⟨j, hj⟩ := h3.1 (by omega)
        exact ⟨j + 1, by rw [Nat.pow_succ]; omega⟩
      · rintro ⟨j, hj⟩
        have hj0 : j ≠ 0 := by rintro rfl; simp at hj; omega
        obtain ⟨i, rfl⟩ : ∃ i, j = i + 1 := ⟨j - 1, by omega⟩
        have := h3.2 ⟨i, by rw [Nat.pow_succ] at hj; omega⟩
        omega
    · have h4 : (x - 1) / 2 = x / 2 := by omega
      rw [h4, Nat.and_self] at hz
      constructor
      · intro h
        exact ⟨0, by rw [h] at hz; simp; omega⟩
      · rintro ⟨j, hj⟩
        have hj0 : j = 0 := by
          rcases Nat.eq_zero_or_pos j with h | h
          · exact h
          · obtain ⟨i, rfl⟩ : ∃ i, j = i + 1 := ⟨j - 1, by omega⟩
            rw [Nat.pow_succ] at hj; omega
        subst hj0
        simp at hj
        subst hj
        decide
theorem capP_bd {c : Int} (h : capP c) : 2 ≤ c ∧ c ≤ 1073741824 := by
  obtain ⟨j, h1, h2, rfl⟩ := h
  rw [← pow_i]
  have h3 : 2 ^ 1 ≤ 2 ^ j := Nat.pow_le_pow_right (by omega) h1
  have h4 : 2 ^ j ≤ 2 ^ 30 := Nat.pow_le_pow_right (by omega) h2
  omega
theorem mul_bd {p c : Int} (hp : 1 ≤ p ∧ p ≤ 4) (hc : 2 ≤ c ∧ c ≤ 1073741824) : 6 ≤ (p + 2) * c ∧ (p + 2) * c ≤ 6442450944 := by
  have h1 : p * c ≤ 4 * 1073741824 := Int.mul_le_mul hp.2 hc.2 (by omega) (by omega)
  have h2 : 1 * 2 ≤ p * c := Int.mul_le_mul hp.1 hc.1 (by omega) (by omega)
  have h3 : (p + 2) * c = p * c + 2 * c := by rw [Int.add_mul]
  omega
section
variable {c : Cf} {up : List (List Int)}
theorem conf_e2 (h : c.variant < 1 ∨ 5 < c.variant) : confCode c up = 2 := by unfold confCode; rw [if_pos h]
theorem conf_e3 (h : ¬ (c.variant < 1 ∨ 5 < c.variant)) (h2 : ¬ (c.width = 32 ∨ c.width = 64)) : confCode c up = 3 := by unfold confCode; rw [if_neg h, if_pos h2]
theorem conf_e4 (h : ¬ (c.variant < 1 ∨ 5 < c.variant)) (h2 : c.width = 32 ∨ c.width = 64) (h3 : ¬ capP c.cap) : confCode c up = 4 := by unfold confCode; rw [if_neg h, if_neg (fun n => n h2), if_pos h3]
theorem conf_e5 (h : ¬ (c.variant < 1 ∨ 5 < c.variant)) (h2 : c.width = 32 ∨ c.width = 64) (h3 : capP c.cap) (h4 : c.producers < 1 ∨ 4 < c.producers ∨ (c.variant = 1 ∧ 1 < c.producers)) : confCode c up = 5 := by
  unfold confCode; rw [if_neg h, if_neg (fun n => n h2), if_neg (fun n => n h3), if_pos h4]
theorem conf_eg (h : ¬ (c.variant < 1 ∨ 5 < c.variant)) (h2 : c.width = 32 ∨ c.width = 64) (h3 : capP c.cap) (h4 : ¬ (c.producers < 1 ∨ 4 < c.producers ∨ (c.variant = 1 ∧ 1 < c.producers))) (h5 : graphCode up ≠ 0) : confCode c up = graphCode up := by
  unfold confCode; rw [if_neg h, if_neg (fun n => n h2), if_neg (fun n => n h3), if_neg h4, if_pos h5]
theorem conf_e9 (h : ¬ (c.variant < 1 ∨ 5 < c.variant)) (h2 : c.width = 32 ∨ c.width = 64) (h3 : capP c.cap) (h4 : ¬ (c.producers < 1 ∨ 4 < c.producers ∨ (c.variant = 1 ∧ 1 < c.producers))) (h5 : graphCode up = 0) (h6 : c.width = 32 ∧ 2147483648 ≤ (c.producers + 2) * c.cap) : confCode c up = 9 := by
  unfold confCode; rw [if_neg h, if_neg (fun n => n h2), if_neg (fun n => n h3), if_neg h4, if_neg (fun n => n h5), if_pos h6]
theorem conf_e10 (h : ¬ (c.variant < 1 ∨ 5 < c.variant)) (h2 : c.width = 32 ∨ c.width = 64) (h3 : capP c.cap) (h4 : ¬ (c.producers < 1 ∨ 4 < c.producers ∨ (c.variant = 1 ∧ 1 < c.producers))) (h5 : graphCode up = 0) (h6 : ¬ (c.width = 32 ∧ 2147483648 ≤ (c.producers + 2) * c.cap)) (h7 : 64 < c.cap) : confCode c up = 10 := by
  unfold confCode; rw [if_neg h, if_neg (fun n => n h2), if_neg (fun n => n h3), if_neg h4, if_neg (fun n => n h5), if_neg h6, if_pos h7]
theorem conf_e0 (h : ¬ (c.variant < 1 ∨ 5 < c.variant)) (h2 : c.width = 32 ∨ c.width = 64) (h3 : capP c.cap) (h4 : ¬ (c.producers < 1 ∨ 4 < c.producers ∨ (c.variant = 1 ∧ 1 < c.producers))) (h5 : graphCode up = 0) (h6 : ¬ (c.width = 32 ∧ 2147483648 ≤ (c.producers + 2) * c.cap)) (h7 : ¬ 64 < c.cap) : confCode c up = 0 := by
  unfold confCode; rw [if_neg h, if_neg (fun n => n h2), if_neg (fun n => n h3), if_neg h4, if_neg (fun n => n h5), if_neg h6, if_neg h7]
end
/-- the layout of a configuration -/
def mkLay (c : Cf) : Lay :=
  if c.variant = 1 then ⟨c, c.un, -1, -1, -1, -1, -1, c.un + 1, c.un + 1 + c.cap⟩
  else if c.variant = 5 then ⟨c, -1, -1, c.un, c.un + 1, c.un + 2, c.un + 3, c.un + 3 + c.cap, c.un + 3 + c.cap + c.cap⟩
  else ⟨c, -1, c.un, -1, -1, -1, c.un + 1, c.un + 1 + c.cap, c.un + 1 + c.cap + c.cap⟩
theorem mkLay_c (c : Cf) : (mkLay c).c = c := by unfold mkLay; split <;> (try split) <;> rfl
theorem mkLay_bd {c : Cf} (hun : c.un ≤ 6) (hc : Cap2 c.cap) : (mkLay c).Bd := by
  have h := hc.bd
  unfold mkLay
  split
  · exact ⟨by simp only; omega, hun, by simp only; omega, by simp only; omega⟩
  · split
    · exact ⟨by simp only; omega, hun, by simp only; omega, by simp only; omega⟩
    · exact ⟨by simp only; omega, hun, by simp only; omega, by simp only; omega⟩
/-- where counting begins -/
def startI (c : Cf) : Int := cutM (MW c.width) c.start
/-- what a cell has at first -/
def Lay.first (l : Lay) (k : Int) : Int :=
  if ¬ (0 < l.cells ∧ 0 ≤ k ∧ k < l.cells) ∨ l.slots ≤ k ∨ k = l.ticket ∨ k = l.serving then 0
  else if ¬ (0 ≤ l.marks ∧ l.marks ≤ k ∧ k < l.slots) then startI l.c
  else if l.c.variant = 4 then firstI (MW l.c.width) l.c.cap (k - l.marks) (startI l.c)
  else aheadI (MW l.c.width) l.c.cap (k - l.marks) (startI l.c)
theorem mkLay_marks {c : Cf} (h : 0 ≤ (mkLay c).marks) : (mkLay c).slots = (mkLay c).marks + c.cap := by
  unfold mkLay at *
  split
  · rename_i h1; rw [if_pos h1] at h; simp only at h; omega
  · rename_i h1; rw [if_neg h1] at h; split <;> simp only
theorem mkLay_cells {c : Cf} (hc : Cap2 c.cap) : 0 < (mkLay c).cells ∧ (mkLay c).cells = (mkLay c).slots + c.cap := by
  have := hc.bd
  unfold mkLay
  split
  · refine ⟨?_, ?_⟩ <;> dsimp only <;> omega
  · split
    · refine ⟨?_, ?_⟩ <;> dsimp only <;> omega
    · refine ⟨?_, ?_⟩ <;> dsimp only <;> omega
end Go.Proofs.YtnkmlopjinihiaaDoor
