/- sakiaref06's numbers as texts. -/
import Derived.Test.YtnkmlopjinihiaaDoorRefNum
import Derived.Laws.BytesString
import Derived.Laws.IdiomStrings
namespace Go.Proofs.YtnkmlopjinihiaaDoor
open Go.RowKit
set_option linter.unusedVariables false
set_option linter.unusedSimpArgs false
set_option maxHeartbeats 2000000

/-- the digits of a number -/
def digL (n : Nat) : List UInt8 := if h : n < 10 then [UInt8.ofNat (48 + n)] else digL (n / 10) ++ [UInt8.ofNat (48 + n % 10)]
termination_by n
decreasing_by omega
def strS (l : List UInt8) : ByteArray := ⟨l.toArray⟩
theorem strS_append (a b : List UInt8) : strS a ++ strS b = strS (a ++ b) := by
  apply ByteArray.ext
  rw [ByteArray.data_append]
  simp [strS]
theorem strS_size (a : List UInt8) : (strS a).size = a.length := by simp [strS, ByteArray.size]
theorem digL_len (k : Nat) : ∀ n, n < 10 ^ (k + 1) → (digL n).length ≤ k + 1 := by
  induction k with
  | zero => intro n h; rw [digL, dif_pos (by omega)]; simp
  | succ k ih =>
    intro n h
    rw [digL]
    split
    · simp
    · rw [List.length_append]
      have := ih (n / 10) (by rw [Nat.pow_succ] at h; omega)
      simp; omega
theorem digL_len20 (n : Nat) (h : (n : Int) ≤ 18446744073709551615) : (digL n).length ≤ 20 := digL_len 19 n (by omega)
theorem conv_one (d : Int) (hd : 0 ≤ d ∧ d < 256) (g : Nat) (W : World) (h : W.cell? ⟨g, 0, none⟩ = some (.int .u8 d)) :
    (convert 44 9 (.slice (some ⟨g, 0, none⟩) 1 1)).run Tryd.prog W = .ok (.string (strS [UInt8.ofNat d.toNat])) W := by
  have := run_convert_bytes_back (P := Tryd.prog) W 44 9 5 ⟨g, 0, none⟩ 1 [UInt8.ofNat d.toNat] Tryd.underlying44 Tryd.underlying5 Tryd.underlying9 (fun j hj => by
    have hj0 : j = 0 := by simp at hj; omega
    subst hj0
    show W.cell? ⟨g, 0, none⟩ = _
    rw [h]
    simp only [List.getElem_cons_zero]
    congr 2
    simp
    omega)
  exact this
theorem digits_go (n : Nat) : ∀ (x : Nat), x ≤ n → (x : Int) ≤ 18446744073709551615 → ∀ w, Calls Tryd.prog 91 #[.int .u64 x] w fun e w' => e = .returned (.string (strS (digL x))) ∧ Below w.heap.size w w' := by
  induction n with
  | zero =>
    intro x hx h2 w
    obtain rfl : x = 0 := by omega
    have hcv := conv_one 48 (by omega) w.heap.size (w.alloc (.cells #[.int .u8 48] 5)) (by simp)
    generalize hce : UInt8.ofNat (48 : Int).toNat = c at hcv
    have HCE := Lib.hid hce
    clear hce
    go_enter Tryd.func91, Tryd.ntmps91
    go_wp2_with fail
    go_ret
    exact ⟨by rw [digL, dif_pos (by omega), ← HCE.out]; rfl, (Below.refl _ _).alloc (Nat.le_refl _) _⟩
  | succ n ih =>
    intro x hx h2 w
    have hm0 := Int.emod_nonneg (x : Int) (b := 10) (by omega)
    have hm1 := Int.emod_lt_of_pos (x : Int) (b := 10) (by omega)
    have hcv := conv_one (48 + (x : Int) % 10) (by omega) w.heap.size (w.alloc (.cells #[.int .u8 (48 + (x : Int) % 10)] 5)) (by simp)
    have hto : (48 + (x : Int) % 10).toNat = 48 + x % 10 := by omega
    rw [hto] at hcv
    generalize hce : UInt8.ofNat (48 + x % 10) = c at hcv
    have HCE := Lib.hid hce
    clear hce hto
    by_cases hlt : x < 10
    · have hlti : (x : Int) < 10 := by omega
      go_enter Tryd.func91, Tryd.ntmps91
      go_wp2_with fail
      go_ret
      refine ⟨?_, (Below.refl _ _).alloc (Nat.le_refl _) _⟩
      rw [digL, dif_pos hlt, ← HCE.out, Nat.mod_eq_of_lt hlt]; rfl
    · have hlti : ¬ (x : Int) < 10 := by omega
      have HIH := Lib.hid (fun W => ih (x / 10) (by omega) (by omega) W)
      generalize hgd : strS (digL (x / 10)) = s at HIH
      have hz : s.size ≤ 20 := by rw [← hgd, strS_size]; exact digL_len20 (x / 10) (by omega)
      have hadd := fun W => run_string_add_sum (P := Tryd.prog) (w := W) s (strS [c]) (by rw [strS_size]; simp; omega)
      have HGD := Lib.hid hgd
      clear hgd ih hz
      have hdv : ((x / 10 : Nat) : Int) = (x : Int) / 10 := by omega
      rw [hdv] at HIH
      clear hdv
      go_enter Tryd.func91, Tryd.ntmps91
      go_wp2_with (go_at_call 91; refine (HIH.out _).mono ?_; rintro e w1 ⟨rfl, hb1⟩)
      go_ret
      refine ⟨?_, below_new hb1⟩
      rw [← HGD.out, ← HCE.out]
      show Ending.returned (.string (strS _ ++ strS _)) = _
      rw [strS_append]
      conv => rhs; rw [digL, dif_neg hlt]
theorem rnum (x : Nat) (hx : (x : Int) ≤ 9223372036854775807) (w : World) : Calls Tryd.prog 22 #[.int .i64 x] w fun e w' => e = .returned (.string (strS (digL x))) ∧ Below w.heap.size w w' := by
  have hu : IntKind.u64.wrap (x : Int) = x := by rw [u64_wrap]; omega
  go_enter Tryd.func22, Tryd.ntmps22
  go_wp2_with (go_at_call 91; refine (digits_go x x (Nat.le_refl _) (by omega) _).mono ?_; rintro e w1 ⟨rfl, hb1⟩)
  go_ret
  exact ⟨rfl, hb1⟩
end Go.Proofs.YtnkmlopjinihiaaDoor
