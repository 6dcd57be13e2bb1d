/- Contracts of conf.Check, conf.Start, sakiaref02.Right, sakiaref10.Check and Right, lap.Right at any capacity, sakialaw09.Long. -/
import Derived.Test.YtnkmlopjinihiaaDoorConfP
import Derived.Test.YtnkmlopjinihiaaDoorWide
import Derived.Test.YtnkmlopjinihiaaDoorGraph
import Derived.Test.YtnkmlopjinihiaaDoorRef09
namespace Go.Proofs.YtnkmlopjinihiaaDoor
open Go.RowKit
set_option linter.unusedVariables false
set_option linter.unusedSimpArgs false
set_option maxHeartbeats 400000

theorem bits_and_i64_nat (a b : Nat) (ha : a < 4294967296) (hb : b < 4294967296) : bits .and .i64 (a : Int) (b : Int) = ((a &&& b : Nat) : Int) := by
  have hx : a &&& b < 2 ^ 32 := Nat.and_lt_two_pow _ (by omega)
  have h1 : (BitVec.ofInt 64 (a : Int)).toNat = a := by
    rw [BitVec.ofInt_natCast, BitVec.toNat_ofNat]; exact Nat.mod_eq_of_lt (by omega)
  have h2 : (BitVec.ofInt 64 (b : Int)).toNat = b := by
    rw [BitVec.ofInt_natCast, BitVec.toNat_ofNat]; exact Nat.mod_eq_of_lt (by omega)
  show IntKind.i64.wrap ((BitVec.ofInt 64 (a : Int) &&& BitVec.ofInt 64 (b : Int)).toNat : Int) = _
  rw [BitVec.toNat_and, h1, h2]
  exact IntWalk.i64_in _ (by omega)
theorem w_capP (c : Int) (h : 2 ≤ c ∧ c ≤ 1073741824) : (bits .and .i64 c (c - 1) == 0) = decide (capP c) := by
  obtain ⟨n, rfl⟩ := Int.eq_ofNat_of_zero_le (show 0 ≤ c by omega)
  have h1 : ((n : Int) - 1) = ((n - 1 : Nat) : Int) := by omega
  rw [h1, bits_and_i64_nat n (n - 1) (by omega) (by omega)]
  rw [Bool.eq_iff_iff]
  simp only [beq_iff_eq, decide_eq_true_eq]
  have h2 := pow2_and 31 n (by omega) (by omega)
  constructor
  · intro h3
    obtain ⟨j, hj⟩ := h2.1 (by omega)
    refine ⟨j, ?_, ?_, by rw [hj, pow_i]⟩
    · rcases Nat.eq_zero_or_pos j with h4 | h4
      · subst h4; simp at hj; omega
      · exact h4
    · rcases Nat.lt_or_ge 30 j with h4 | h4
      · have : 2 ^ 31 ≤ 2 ^ j := Nat.pow_le_pow_right (by omega) h4
        omega
      · exact h4
  · rintro ⟨j, _, _, hj⟩
    rw [← pow_i] at hj
    have := h2.2 ⟨j, by omega⟩
    omega
theorem not_capP {c : Int} (h : c < 2 ∨ 1073741824 < c) : ¬ capP c := by
  rintro ⟨j, h1, h2, hj⟩
  rw [← pow_i] at hj
  have h3 : 2 ^ 1 ≤ 2 ^ j := Nat.pow_le_pow_right (by omega) h1
  have h4 : 2 ^ j ≤ 2 ^ 30 := Nat.pow_le_pow_right (by omega) h2
  omega
theorem laprightX (c : Int) (w : World) : Calls Tryd.prog 153 #[.int .i64 c] w fun e w' => e = .returned (.bool (decide (capP c))) ∧ w = w' := by
  by_cases h1 : c < 2
  · have hf := Lib.hid (not_capP (.inl h1))
    go_enter Tryd.func153, Tryd.ntmps153
    go_wp2
    go_ret
    exact ⟨ret_bool (by have := hf.out; simp [this]), rfl⟩
  · by_cases h2 : 1073741824 < c
    · have hf := Lib.hid (not_capP (.inr h2))
      have h3 : 2 ≤ c := by omega
      clear h1
      go_enter Tryd.func153, Tryd.ntmps153
      go_wp2
      go_ret
      exact ⟨ret_bool (by have := hf.out; simp [this]), rfl⟩
    · have h3 : 2 ≤ c := by omega
      have h4 : c ≤ 1073741824 := by omega
      have hf := Lib.hid (w_capP c ⟨h3, h4⟩)
      clear h1 h2
      go_enter Tryd.func153, Tryd.ntmps153
      go_wp2
      go_ret
      exact ⟨ret_bool hf.out, rfl⟩
set_option maxRecDepth 100000 in
theorem rright (c : Int) (w : World) : Calls Tryd.prog 112 #[.int .i64 c] w fun e w' => e = .returned (.bool (decide (capP c))) ∧ w = w' := by
  go_enter Tryd.func112, Tryd.ntmps112
  go_wp2_with fail
  go_loop [3] (fun i => ∃ n k : Nat, i = .int .i64 (n : Int) ∧ (n : Int) ≤ 1073741824 ∧ n = 2 ^ k ∧ 1 ≤ k ∧ k ≤ 30 ∧ (k = 1 ∨ ((2 ^ (k - 1) : Nat) : Int) < c)) (fun i => (1073741825 - intOf i).toNat)
  case atStart => exact ⟨2, 1, rfl, by omega, rfl, by omega, by omega, .inl rfl⟩
  case round =>
    obtain ⟨n, k, rfl, hn30, hn, hk1, hk30, hlow⟩ := hrel
    have hn0 : 1 ≤ n := by rw [hn]; exact Nat.one_le_two_pow
    have HN := Lib.hid hn
    have HL := Lib.hid hlow
    clear hn hlow
    by_cases h1 : (n : Int) < c
    · by_cases h2 : (n : Int) < 1073741824
      · have hk : k < 30 := by
          rcases Nat.lt_or_ge k 30 with h | h
          · exact h
          · have h4 : 2 ^ 30 ≤ 2 ^ k := Nat.pow_le_pow_right (by omega) h
            have := HN.out
            omega
        have hpk : 2 * n ≤ 1073741824 := by
          have h4 : 2 ^ (k + 1) ≤ 2 ^ 30 := Nat.pow_le_pow_right (by omega) (by omega)
          have := HN.out
          rw [Nat.pow_succ] at h4
          omega
        have HPK := Lib.hid hpk
        clear hpk
        go_wp2_with fail
        go_round
        case rel =>
          have hpk := HPK.out
          refine ⟨2 * n, k + 1, by go_num, by omega, ?_, by omega, by omega, .inr ?_⟩
          · rw [Nat.pow_succ, ← HN.out]; omega
          · have := HN.out
            simp only [Nat.add_sub_cancel]
            omega
        case measure => simp [intOf]; omega
      · have hk : k = 30 := by
          rcases Nat.lt_or_ge k 30 with h | h
          · have h4 : 2 ^ k < 2 ^ 30 := Nat.pow_lt_pow_right (by omega) h
            have := HN.out
            omega
          · omega
        have hf := Lib.hid (capP_iff_end HN.out hk1 hk30 HL.out (.inr hk))
        have h3 : decide ((n : Int) < 1073741824) = false := by simpa using h2
        clear hk h2 hn30 hn0
        go_wp2_with fail
        go_ret
        exact ⟨ret_bool hf.out, rfl⟩
    · have hf := Lib.hid (capP_iff_end HN.out hk1 hk30 HL.out (.inl (by omega)))
      have h3 : decide ((n : Int) < c) = false := by simpa using h1
      clear h1 hn30 hn0
      go_wp2_with fail
      go_ret
      exact ⟨ret_bool hf.out, rfl⟩
theorem rconf (Bk : Nat → Prop) (c : Cf) (up : List (List Int)) (hun : c.un = up.length) (hlen : up.length ≤ 1000000) (hll : ∀ l ∈ up, l.length ≤ 1000000) (w : World) (hB : ∀ b, Bk b → b < w.heap.size) (hU : UpAt w Bk c.ua up) :
    Calls Tryd.prog 44 #[.agg c.vs.toArray] w fun e w' => e = .returned (.int .i64 (confCode c up)) ∧ Below w.heap.size w w' := by
  obtain ⟨variant, width, cap, producers, start, ua, un, uc⟩ := c
  simp only at hun hU
  subst hun
  unfold Cf.vs
  have hcon : ∀ o, Calls Tryd.prog 113 #[.slice ua up.length uc] (w.alloc o) fun e w' => e = .returned (.int .i64 (graphCode up)) ∧ Below (w.alloc o).heap.size (w.alloc o) w' := fun o =>
    rcheck Bk up hlen hll ua uc (w.alloc o) (fun b hb => by have := hB b hb; simp; omega) (hU.below ((Below.refl w.heap.size w).alloc (Nat.le_refl _) o) hB)
  have HCON := Lib.hid hcon
  have hwr : capP cap → 1 ≤ producers → producers ≤ 4 → wrap64 ((producers + 2) * cap) = (producers + 2) * cap := fun h1 h2 h3 => wrap64_id (by have := mul_bd ⟨h2, h3⟩ (capP_bd h1); omega)
  have HWR := Lib.hid hwr
  clear hwr
  have HUN := Lib.hid hU
  clear hcon hU hB hll
  go_enter Tryd.func44, Tryd.ntmps44
  go_wp2_with (first | (go_at_call 112; refine (rright cap _).mono ?_; rintro e w' ⟨rfl, rfl⟩) | (go_at_call 113; refine (HCON.out _).mono ?_; rintro e w1 ⟨rfl, hb1⟩; obtain ⟨hc1, hf1⟩ := bcell hb1))
  all_goals go_ret
  all_goals (refine ⟨ret_int ?_, ?_⟩; case' refine_2 => first | exact (Below.refl _ _).alloc (Nat.le_refl _) _ | exact below_new hb1)
  all_goals (have hwr := HWR.out; clear HWR HCON HUN; try clear hc1 hf1 hb1)
  all_goals (unfold confCode; simp only at *; grind)
theorem cbound (c : Cf) (hw : c.width = 32 ∨ c.width = 64) (hp : 1 ≤ c.producers ∧ c.producers ≤ 4) (hc : capP c.cap) (w : World) :
    Calls Tryd.prog 155 #[.agg c.vs.toArray] w fun e w' => e = .returned (.bool (decide (c.width = 32 ∧ 2147483648 ≤ (c.producers + 2) * c.cap))) ∧ Below w.heap.size w w' := by
  obtain ⟨variant, width, cap, producers, start, ua, un, uc⟩ := c
  simp only at hw hp hc
  have hbd := capP_bd hc
  have hm := mul_bd hp hbd
  have hwr : IntKind.u64.wrap ((producers + 2) * cap) = (producers + 2) * cap := by rw [u64_wrap]; omega
  clear hc
  unfold Cf.vs
  rcases hw with rfl | rfl
  all_goals
    go_enter Tryd.func155, Tryd.ntmps155
    go_wp2_with fail
    go_ret
    refine ⟨ret_bool ?_, (Below.refl _ _).alloc (Nat.le_refl _) _⟩
    simp
    try omega
theorem cconf (Bk : Nat → Prop) (c : Cf) (up : List (List Int)) (hun : c.un = up.length) (hlen : up.length ≤ 1000000) (hll : ∀ l ∈ up, l.length ≤ 1000000) (w : World) (hB : ∀ b, Bk b → b < w.heap.size) (hU : UpAt w Bk c.ua up) :
    Calls Tryd.prog 84 #[.agg c.vs.toArray] w fun e w' => e = .returned (.int .i64 (confCode c up)) ∧ Below w.heap.size w w' := by
  obtain ⟨variant, width, cap, producers, start, ua, un, uc⟩ := c
  simp only at hun hU
  subst hun
  have hcon : ∀ o, Calls Tryd.prog 154 #[.slice ua up.length uc] (w.alloc o) fun e w' => e = .returned (.int .i64 (graphCode up)) ∧ Below (w.alloc o).heap.size (w.alloc o) w' := fun o =>
    gcheck Bk up hlen hll ua uc (w.alloc o) (fun b hb => by have := hB b hb; simp; omega) (hU.below ((Below.refl w.heap.size w).alloc (Nat.le_refl _) o) hB)
  by_cases hall : (width = 32 ∨ width = 64) ∧ (1 ≤ producers ∧ producers ≤ 4) ∧ capP cap
  · have hbo : ∀ v W, Calls Tryd.prog 155 #[.agg #[.int .i64 v, .int .i64 width, .int .i64 cap, .int .i64 producers, .int .u64 start, .slice ua up.length uc]] W fun e w' => e = .returned (.bool (decide (width = 32 ∧ 2147483648 ≤ (producers + 2) * cap))) ∧ Below W.heap.size W w' :=
      fun v W => cbound ⟨v, width, cap, producers, start, ua, up.length, uc⟩ hall.1 hall.2.1 hall.2.2 W
    have HBO := Lib.hid hbo
    have HCON := Lib.hid hcon
    have HUN := Lib.hid hU
    have HALL := Lib.hid hall
    clear hcon hU hB hll hbo hall
    unfold Cf.vs
    go_enter Tryd.func84, Tryd.ntmps84
    go_wp2_with (first | (go_at_call 153; refine (laprightX cap _).mono ?_; rintro e w' ⟨rfl, rfl⟩) | (go_at_call 152; refine (wright width _).mono ?_; rintro e w' ⟨rfl, rfl⟩) | (go_at_call 154; refine (HCON.out _).mono ?_; rintro e w1 ⟨rfl, hb1⟩; obtain ⟨hc1, hf1⟩ := bcell hb1; have hz1 : w.heap.size < w1.heap.size := by have := hb1.size; simp at this; omega) | (go_at_call 155; refine (HBO.out _ _).mono ?_; rintro e w2 ⟨rfl, hb2⟩; obtain ⟨hc2, hf2⟩ := bcell hb2))
    all_goals go_ret
    all_goals (refine ⟨ret_int ?_, ?_⟩; case' refine_2 => first | exact (Below.refl _ _).alloc (Nat.le_refl _) _ | exact below_new hb1 | exact below_new (hb1.trans (hb2.mono hb1.size)))
    all_goals (have hall := HALL.out; clear HALL HCON HUN HBO; try clear hc1 hf1 hb1; try clear hc2 hf2 hb2)
    all_goals (unfold confCode; simp only at *; grind)
  · have HCON := Lib.hid hcon
    have HUN := Lib.hid hU
    have HALL := Lib.hid hall
    clear hcon hU hB hll hall
    unfold Cf.vs
    go_enter Tryd.func84, Tryd.ntmps84
    go_wp2_with (first | (go_at_call 153; refine (laprightX cap _).mono ?_; rintro e w' ⟨rfl, rfl⟩) | (go_at_call 152; refine (wright width _).mono ?_; rintro e w' ⟨rfl, rfl⟩) | (go_at_call 154; refine (HCON.out _).mono ?_; rintro e w1 ⟨rfl, hb1⟩; obtain ⟨hc1, hf1⟩ := bcell hb1))
    all_goals first | go_ret | (exfalso; have hall := HALL.out; clear HALL HCON HUN hc1 hf1 hb1; grind)
    all_goals (refine ⟨ret_int ?_, ?_⟩; case' refine_2 => first | exact (Below.refl _ _).alloc (Nat.le_refl _) _ | exact below_new hb1)
    all_goals (have hall := HALL.out; clear HALL HCON HUN; try clear hc1 hf1 hb1)
    all_goals (unfold confCode; simp only at *; grind)
theorem cconf_ok (Bk : Nat → Prop) (c : Cf) (up : List (List Int)) (hun : c.un = up.length) (hok : CfOk c up) (hll : ∀ l ∈ up, l.length ≤ 1000000) (w : World) (hB : ∀ b, Bk b → b < w.heap.size) (hU : UpAt w Bk c.ua up) :
    Calls Tryd.prog 84 #[.agg c.vs.toArray] w fun e w' => e = .returned (.int .i64 0) ∧ Below w.heap.size w w' :=
  (cconf Bk c up hun (by have := hok.up.len; omega) hll w hB hU).mono fun e w' h => ⟨h.1.trans (ret_int (code_of_cfOk hok)), h.2⟩
theorem cstart (Bk : Nat → Prop) (c : Cf) (up : List (List Int)) (hun : c.un = up.length) (hok : CfOk c up) (hst : 0 ≤ c.start ∧ c.start ≤ 18446744073709551615) (hll : ∀ l ∈ up, l.length ≤ 1000000) (w : World) (hB : ∀ b, Bk b → b < w.heap.size) (hU : UpAt w Bk c.ua up) :
    Calls Tryd.prog 115 #[.agg c.vs.toArray] w fun e w' => e = .returned (.int .u64 (cutM (MW c.width) c.start)) ∧ Below w.heap.size w w' := by
  have hw := hok.width
  have hcon : ∀ o, Calls Tryd.prog 84 #[.agg c.vs.toArray] (w.alloc o) fun e w' => e = .returned (.int .i64 0) ∧ Below (w.alloc o).heap.size (w.alloc o) w' := fun o =>
    cconf_ok Bk c up hun hok hll (w.alloc o) (fun b hb => by have := hB b hb; simp; omega) (hU.below ((Below.refl w.heap.size w).alloc (Nat.le_refl _) o) hB)
  obtain ⟨variant, width, cap, producers, start, ua, un, uc⟩ := c
  simp only at hw hst
  unfold Cf.vs at hcon ⊢
  simp only at hcon
  have HCON := Lib.hid hcon
  have HW := Lib.hid hw
  have HST := Lib.hid hst
  clear hcon hU hB hll hok hun hw hst
  go_enter Tryd.func115, Tryd.ntmps115
  go_wp2_with (first | (go_at_call 84; refine (HCON.out _).mono ?_; rintro e w1 ⟨rfl, hb1⟩; obtain ⟨hc1, hf1⟩ := bcell hb1) | (go_at_call 173; refine (wcut _ _ HW.out HST.out _).mono ?_; rintro e w' ⟨rfl, rfl⟩))
  go_ret
  exact ⟨rfl, below_new hb1⟩
theorem rrightOf (Bk : Nat → Prop) (c : Cf) (up : List (List Int)) (hun : c.un = up.length) (hlen : up.length ≤ 1000000) (hll : ∀ l ∈ up, l.length ≤ 1000000) (w : World) (hB : ∀ b, Bk b → b < w.heap.size) (hU : UpAt w Bk c.ua up) :
    Calls Tryd.prog 15 #[.agg c.vs.toArray] w fun e w' => e = .returned (.bool (confCode c up == 0)) ∧ Below w.heap.size w w' := by
  have hcon : ∀ o, Calls Tryd.prog 44 #[.agg c.vs.toArray] (w.alloc o) fun e w' => e = .returned (.int .i64 (confCode c up)) ∧ Below (w.alloc o).heap.size (w.alloc o) w' := fun o =>
    rconf Bk c up hun hlen hll (w.alloc o) (fun b hb => by have := hB b hb; simp; omega) (hU.below ((Below.refl w.heap.size w).alloc (Nat.le_refl _) o) hB)
  obtain ⟨variant, width, cap, producers, start, ua, un, uc⟩ := c
  unfold Cf.vs at hcon ⊢
  simp only at hcon
  have HCON := Lib.hid hcon
  clear hcon hU hB hll hun
  go_enter Tryd.func15, Tryd.ntmps15
  go_wp2_with (go_at_call 44; refine (HCON.out _).mono ?_; rintro e w1 ⟨rfl, hb1⟩)
  go_ret
  exact ⟨rfl, below_new hb1⟩
def LongEnd (up : List (List Int)) (e : Ending) : Prop := e = .returned (.bool true) ∨ (e = .returned (.bool false) ∧ up.length ≤ 20 ∧ ∀ l ∈ up, l.length ≤ 20)
theorem llong (Bk : Nat → Prop) (up : List (List Int)) (ua : Option Addr) (uc : Nat) (hlen : up.length ≤ maxLen) (hll : ∀ l ∈ up, l.length ≤ maxLen) (w : World) (hU : UpAt w Bk ua up) :
    Calls Tryd.prog 14 #[.slice ua up.length uc] w fun e w' => LongEnd up e ∧ w = w' := by
  unfold maxLen at hlen hll
  go_enter Tryd.func14, Tryd.ntmps14
  go_wp2_with fail
  go_loop [3] (fun i => ∃ k : Nat, k ≤ up.length ∧ k ≤ 20 ∧ i = .int .i64 k ∧ ∀ (j : Nat) (l : List Int), j < k → up[j]? = some l → l.length ≤ 20) (fun i => 20 - (intOf i).toNat)
  case atStart => exact ⟨0, by omega, by omega, rfl, fun j l h => by omega⟩
  case round =>
    obtain ⟨k, hk, hk20, rfl, hinv⟩ := hrel
    have HINV := Lib.hid hinv
    clear hinv
    by_cases hlt : k < up.length
    · by_cases h20 : k < 20
      · have hx := List.getElem?_eq_getElem hlt
        obtain ⟨b, o, A', cc, rfl, hb, hc, hI, hcap⟩ := hU k _ hx
        have hlm := hll _ (List.getElem_mem hlt)
        generalize up[k] = l at *
        have HX := Lib.hid hx
        have HU := Lib.hid hU
        have HI := Lib.hid hI
        clear hx hU hI
        go_wp2_with fail
        · go_ret
          exact ⟨.inl rfl, rfl⟩
        · go_round
          case rel => exact ⟨k + 1, by omega, by omega, by go_num, fun j l' hj hl' => by
            by_cases hjk : j = k
            · subst hjk; rw [HX.out] at hl'; cases hl'; omega
            · exact HINV.out j l' (by omega) hl'⟩
          case measure => simp [intOf]; omega
      · have hk2 : k = 20 := by omega
        subst hk2
        have h21 : 20 < up.length := hlt
        clear hU
        go_wp2_with fail
        go_ret
        exact ⟨.inl rfl, rfl⟩
    · have hkl : k = up.length := by omega
      have h20 : up.length ≤ 20 := by omega
      have hfin := Lib.hid (show ∀ l ∈ up, l.length ≤ 20 from fun l hl => by
        obtain ⟨j, hj⟩ := List.getElem?_of_mem hl
        exact HINV.out j l (by have := (List.getElem?_eq_some_iff.1 hj).1; omega) hj)
      clear hU hkl
      go_wp2_with fail
      go_ret
      exact ⟨.inr ⟨ret_bool (by simp; omega), h20, hfin.out⟩, rfl⟩
end Go.Proofs.YtnkmlopjinihiaaDoor
