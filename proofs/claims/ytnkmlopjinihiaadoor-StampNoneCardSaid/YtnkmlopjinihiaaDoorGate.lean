/- Contracts of gate.Fits and of gate.Scan on registers, for both widths. -/
import Derived.Test.YtnkmlopjinihiaaDoorGateP
import Derived.Test.YtnkmlopjinihiaaDoorBoard
import Derived.Test.YtnkmlopjinihiaaDoorFrame
namespace Go.Proofs.YtnkmlopjinihiaaDoor
open Go.RowKit
set_option linter.unusedVariables false
set_option linter.unusedSimpArgs false
set_option maxHeartbeats 4000000

theorem gfits32 (cap from_ n least : Int) (w : World) :
    Calls Tryd.prog 94 #[.int .i64 cap, .int .u32 from_, .int .i64 n, .int .u32 least] w fun e w' => e = .returned (.bool (fitsP M32 cap from_ n least)) ∧ w = w' := by
  go_enter Tryd.func94, Tryd.ntmps94
  go_wp2_with (first
    | (go_at_call 35; refine (add32 _ _ _).mono ?_; rintro e w' ⟨rfl, rfl⟩)
    | (go_at_call 105; refine (diff32 _ _ _).mono ?_; rintro e w' ⟨rfl, rfl⟩))
  go_ret
  exact ⟨rfl, rfl⟩
theorem gscanN32 (bv fv : Option Addr) (hn : bv = none ∨ fv = none) (t : Int) (A : Option Addr) (n cap : Nat) (w : World) :
    Calls Tryd.prog 37 #[.pointer bv, .int .i64 t, .slice A n cap, .pointer fv] w fun e w' => e = .returned (.bool true) ∧ w = w' := by
  rcases hn with rfl | rfl
  · go_enter Tryd.func37, Tryd.ntmps37
    go_wp2_with fail
    go_ret
    exact ⟨rfl, rfl⟩
  · cases bv with
    | none =>
      go_enter Tryd.func37, Tryd.ntmps37
      go_wp2_with fail
      go_ret
      exact ⟨rfl, rfl⟩
    | some a =>
      go_enter Tryd.func37, Tryd.ntmps37
      go_wp2_with fail
      go_ret
      exact ⟨rfl, rfl⟩
set_option maxRecDepth 100000 in
theorem gscan32 (P : BFP) (w0 : World) (γ0 : Nat → Nat) (w : World) (γ : Nat → Nat) (b : BS) (f : FrS) (h : BFAt 132 48 208 .u32 P w0 γ0 w γ b f) (hf : b.Fit M32) (hlen : b.log.length ≤ 1000000) (t : Int)
    (A : Option Addr) (cells : List Int) (cap : Nat) (Bk : Nat → Prop) (hA : IntsAt w Bk A cells) (hcl : cells.length ≤ 1000000) :
    Calls Tryd.prog 37 #[.pointer (some ⟨P.p, 0, none⟩), .int .i64 t, .slice A cells.length cap, .pointer (some ⟨P.fb, P.o, none⟩)] w
      (BFEnd 132 48 208 .u32 P w0 γ0 (.bool (scanP M32 b t cells f).1) (scanP M32 b t cells f).2.1 (scanP M32 b t cells f).2.2) := by
  have H := Lib.hid h
  unfold scanP
  have c4 := h.cI
  have c7 := h.cMin
  have z4 := h.frozen (P.o + 4)
  have z7 := h.frozen (P.o + 7)
  have hlt := h.lt
  by_cases hin : 0 ≤ f.i ∧ f.i < cells.length
  · rw [if_neg (fun hn => hn hin)]
    obtain ⟨n, hn⟩ : ∃ n : Nat, f.i = n := ⟨f.i.toNat, by omega⟩
    have hnl : n < cells.length := by omega
    have hgx := List.getElem?_eq_getElem hnl
    have hgd : cells.getD f.i.toNat 0 = cells[n] := by rw [hn]; simp [List.getD_eq_getElem?_getD, hgx]
    rw [hgd]
    generalize cells[n] = x at *
    obtain ⟨ab, ao, rfl, hab, hac⟩ := hA n x hgx
    have HL := Lib.hid (bLoad32 w γ P.id P.p b h.brd hf.ok hlen t x)
    generalize b.load t x = r at *
    obtain ⟨v, b2⟩ := r
    dsimp only at *
    rw [hn] at c4
    have hn0 : (0 : Int) ≤ n := by omega
    have hnl2 : (n : Int) < cells.length := by omega
    have hwn : wrap64 ((n : Int) + 1) = (n : Int) + 1 := wrap64_id (by omega)
    have HFI := Lib.hid hn
    rw [hn]
    clear hin hgx hgd hA h hf hlen hn hab
    by_cases hz : n = 0
    · subst hz
      rw [show minP M32 ((0 : Nat) : Int) v f.min = v from if_pos (.inl rfl)]
      rw [Nat.add_zero] at hac
      have hp1 : decide (cells = []) = false := decide_eq_false (by intro h; rw [h] at hnl2; simp at hnl2)
      by_cases hnx : (1 : Int) < cells.length
      · rw [if_pos (show ((0 : Nat) : Int) + 1 < cells.length by omega)]
        go_enter Tryd.func37, Tryd.ntmps37
        go_wp2_with (first
          | (go_at_call 104; refine HL.out.mono ?_; intro e w3 hmu; obtain ⟨rfl, γ3, hh3⟩ := H.out.mut hmu; have H3 := Lib.hid hh3; have d4 := hh3.cI; rw [HFI.out] at d4; have d7 := hh3.cMin; have y4 := hh3.frozen (P.o + 4); have y7 := hh3.frozen (P.o + 7); clear hmu hh3)
          )
        go_ret
        exact ⟨rfl, γ3, (H3.out.setMin _).setI _⟩
      · rw [if_neg (show ¬ ((0 : Nat) : Int) + 1 < cells.length by omega)]
        go_enter Tryd.func37, Tryd.ntmps37
        go_wp2_with (first
          | (go_at_call 104; refine HL.out.mono ?_; intro e w3 hmu; obtain ⟨rfl, γ3, hh3⟩ := H.out.mut hmu; have H3 := Lib.hid hh3; have d4 := hh3.cI; rw [HFI.out] at d4; have d7 := hh3.cMin; have y4 := hh3.frozen (P.o + 4); have y7 := hh3.frozen (P.o + 7); clear hmu hh3)
          )
        go_ret
        exact ⟨rfl, γ3, ((H3.out.setMin _).setI _).setI _⟩
    · have hz1 : ((n : Int) == 0) = false := by simp; omega
      have hz0 : ¬ (n : Int) = 0 := by omega
      by_cases hls : difM M32 v f.min < 0
      · rw [show minP M32 (n : Int) v f.min = v from if_pos (.inr hls)]
        have HLS := Lib.hid (decide_eq_true hls)
        clear hls hz hz0
        by_cases hnx : (n : Int) + 1 < cells.length
        · rw [if_pos hnx]
          go_enter Tryd.func37, Tryd.ntmps37
          go_wp2_with (first
            | (go_at_call 104; refine HL.out.mono ?_; intro e w3 hmu; obtain ⟨rfl, γ3, hh3⟩ := H.out.mut hmu; have H3 := Lib.hid hh3; have d4 := hh3.cI; rw [HFI.out] at d4; have d7 := hh3.cMin; have y4 := hh3.frozen (P.o + 4); have y7 := hh3.frozen (P.o + 7); clear hmu hh3)
            | (go_at_call 38; refine (less32 _ _ _).mono ?_; rintro e w' ⟨rfl, rfl⟩; rw [HLS.out]))
          go_ret
          exact ⟨rfl, γ3, (H3.out.setMin _).setI _⟩
        · rw [if_neg hnx]
          go_enter Tryd.func37, Tryd.ntmps37
          go_wp2_with (first
            | (go_at_call 104; refine HL.out.mono ?_; intro e w3 hmu; obtain ⟨rfl, γ3, hh3⟩ := H.out.mut hmu; have H3 := Lib.hid hh3; have d4 := hh3.cI; rw [HFI.out] at d4; have d7 := hh3.cMin; have y4 := hh3.frozen (P.o + 4); have y7 := hh3.frozen (P.o + 7); clear hmu hh3)
            | (go_at_call 38; refine (less32 _ _ _).mono ?_; rintro e w' ⟨rfl, rfl⟩; rw [HLS.out]))
          go_ret
          exact ⟨rfl, γ3, ((H3.out.setMin _).setI _).setI _⟩
      · rw [show minP M32 (n : Int) v f.min = f.min from if_neg (fun hh => hh.elim hz0 hls)]
        have HLS := Lib.hid (decide_eq_false hls)
        clear hls hz hz0
        by_cases hnx : (n : Int) + 1 < cells.length
        · rw [if_pos hnx]
          go_enter Tryd.func37, Tryd.ntmps37
          go_wp2_with (first
            | (go_at_call 104; refine HL.out.mono ?_; intro e w3 hmu; obtain ⟨rfl, γ3, hh3⟩ := H.out.mut hmu; have H3 := Lib.hid hh3; have d4 := hh3.cI; rw [HFI.out] at d4; have d7 := hh3.cMin; have y4 := hh3.frozen (P.o + 4); have y7 := hh3.frozen (P.o + 7); clear hmu hh3)
            | (go_at_call 38; refine (less32 _ _ _).mono ?_; rintro e w' ⟨rfl, rfl⟩; rw [HLS.out]))
          go_ret
          exact ⟨rfl, γ3, H3.out.setI _⟩
        · rw [if_neg hnx]
          go_enter Tryd.func37, Tryd.ntmps37
          go_wp2_with (first
            | (go_at_call 104; refine HL.out.mono ?_; intro e w3 hmu; obtain ⟨rfl, γ3, hh3⟩ := H.out.mut hmu; have H3 := Lib.hid hh3; have d4 := hh3.cI; rw [HFI.out] at d4; have d7 := hh3.cMin; have y4 := hh3.frozen (P.o + 4); have y7 := hh3.frozen (P.o + 7); clear hmu hh3)
            | (go_at_call 38; refine (less32 _ _ _).mono ?_; rintro e w' ⟨rfl, rfl⟩; rw [HLS.out]))
          go_ret
          exact ⟨rfl, γ3, (H3.out.setI _).setI _⟩
  · rw [if_pos hin]
    clear h hf hlen hA
    by_cases h0 : f.i < 0
    · go_enter Tryd.func37, Tryd.ntmps37
      go_wp2_with fail
      go_ret
      exact ⟨rfl, γ, H.out.setI _⟩
    · have h1 : (cells.length : Int) ≤ f.i := by omega
      go_enter Tryd.func37, Tryd.ntmps37
      go_wp2_with fail
      go_ret
      exact ⟨rfl, γ, H.out.setI _⟩
theorem gfits64 (cap from_ n least : Int) (w : World) :
    Calls Tryd.prog 179 #[.int .i64 cap, .int .u64 from_, .int .i64 n, .int .u64 least] w fun e w' => e = .returned (.bool (fitsP M64 cap from_ n least)) ∧ w = w' := by
  go_enter Tryd.func179, Tryd.ntmps179
  go_wp2_with (first
    | (go_at_call 55; refine (add64 _ _ _).mono ?_; rintro e w' ⟨rfl, rfl⟩)
    | (go_at_call 169; refine (diff64 _ _ _).mono ?_; rintro e w' ⟨rfl, rfl⟩))
  go_ret
  exact ⟨rfl, rfl⟩
theorem gscanN64 (bv fv : Option Addr) (hn : bv = none ∨ fv = none) (t : Int) (A : Option Addr) (n cap : Nat) (w : World) :
    Calls Tryd.prog 40 #[.pointer bv, .int .i64 t, .slice A n cap, .pointer fv] w fun e w' => e = .returned (.bool true) ∧ w = w' := by
  rcases hn with rfl | rfl
  · go_enter Tryd.func40, Tryd.ntmps40
    go_wp2_with fail
    go_ret
    exact ⟨rfl, rfl⟩
  · cases bv with
    | none =>
      go_enter Tryd.func40, Tryd.ntmps40
      go_wp2_with fail
      go_ret
      exact ⟨rfl, rfl⟩
    | some a =>
      go_enter Tryd.func40, Tryd.ntmps40
      go_wp2_with fail
      go_ret
      exact ⟨rfl, rfl⟩
set_option maxRecDepth 100000 in
theorem gscan64 (P : BFP) (w0 : World) (γ0 : Nat → Nat) (w : World) (γ : Nat → Nat) (b : BS) (f : FrS) (h : BFAt 142 22 208 .u64 P w0 γ0 w γ b f) (hf : b.Fit M64) (hlen : b.log.length ≤ 1000000) (t : Int)
    (A : Option Addr) (cells : List Int) (cap : Nat) (Bk : Nat → Prop) (hA : IntsAt w Bk A cells) (hcl : cells.length ≤ 1000000) :
    Calls Tryd.prog 40 #[.pointer (some ⟨P.p, 0, none⟩), .int .i64 t, .slice A cells.length cap, .pointer (some ⟨P.fb, P.o, none⟩)] w
      (BFEnd 142 22 208 .u64 P w0 γ0 (.bool (scanP M64 b t cells f).1) (scanP M64 b t cells f).2.1 (scanP M64 b t cells f).2.2) := by
  have H := Lib.hid h
  unfold scanP
  have c4 := h.cI
  have c7 := h.cMin
  have z4 := h.frozen (P.o + 4)
  have z7 := h.frozen (P.o + 7)
  have hlt := h.lt
  by_cases hin : 0 ≤ f.i ∧ f.i < cells.length
  · rw [if_neg (fun hn => hn hin)]
    obtain ⟨n, hn⟩ : ∃ n : Nat, f.i = n := ⟨f.i.toNat, by omega⟩
    have hnl : n < cells.length := by omega
    have hgx := List.getElem?_eq_getElem hnl
    have hgd : cells.getD f.i.toNat 0 = cells[n] := by rw [hn]; simp [List.getD_eq_getElem?_getD, hgx]
    rw [hgd]
    generalize cells[n] = x at *
    obtain ⟨ab, ao, rfl, hab, hac⟩ := hA n x hgx
    have HL := Lib.hid (bLoad64 w γ P.id P.p b h.brd hf.ok hlen t x)
    generalize b.load t x = r at *
    obtain ⟨v, b2⟩ := r
    dsimp only at *
    rw [hn] at c4
    have hn0 : (0 : Int) ≤ n := by omega
    have hnl2 : (n : Int) < cells.length := by omega
    have hwn : wrap64 ((n : Int) + 1) = (n : Int) + 1 := wrap64_id (by omega)
    have HFI := Lib.hid hn
    rw [hn]
    clear hin hgx hgd hA h hf hlen hn hab
    by_cases hz : n = 0
    · subst hz
      rw [show minP M64 ((0 : Nat) : Int) v f.min = v from if_pos (.inl rfl)]
      rw [Nat.add_zero] at hac
      have hp1 : decide (cells = []) = false := decide_eq_false (by intro h; rw [h] at hnl2; simp at hnl2)
      by_cases hnx : (1 : Int) < cells.length
      · rw [if_pos (show ((0 : Nat) : Int) + 1 < cells.length by omega)]
        go_enter Tryd.func40, Tryd.ntmps40
        go_wp2_with (first
          | (go_at_call 108; refine HL.out.mono ?_; intro e w3 hmu; obtain ⟨rfl, γ3, hh3⟩ := H.out.mut hmu; have H3 := Lib.hid hh3; have d4 := hh3.cI; rw [HFI.out] at d4; have d7 := hh3.cMin; have y4 := hh3.frozen (P.o + 4); have y7 := hh3.frozen (P.o + 7); clear hmu hh3)
          )
        go_ret
        exact ⟨rfl, γ3, (H3.out.setMin _).setI _⟩
      · rw [if_neg (show ¬ ((0 : Nat) : Int) + 1 < cells.length by omega)]
        go_enter Tryd.func40, Tryd.ntmps40
        go_wp2_with (first
          | (go_at_call 108; refine HL.out.mono ?_; intro e w3 hmu; obtain ⟨rfl, γ3, hh3⟩ := H.out.mut hmu; have H3 := Lib.hid hh3; have d4 := hh3.cI; rw [HFI.out] at d4; have d7 := hh3.cMin; have y4 := hh3.frozen (P.o + 4); have y7 := hh3.frozen (P.o + 7); clear hmu hh3)
          )
        go_ret
        exact ⟨rfl, γ3, ((H3.out.setMin _).setI _).setI _⟩
    · have hz1 : ((n : Int) == 0) = false := by simp; omega
      have hz0 : ¬ (n : Int) = 0 := by omega
      by_cases hls : difM M64 v f.min < 0
      · rw [show minP M64 (n : Int) v f.min = v from if_pos (.inr hls)]
        have HLS := Lib.hid (decide_eq_true hls)
        clear hls hz hz0
        by_cases hnx : (n : Int) + 1 < cells.length
        · rw [if_pos hnx]
          go_enter Tryd.func40, Tryd.ntmps40
          go_wp2_with (first
            | (go_at_call 108; refine HL.out.mono ?_; intro e w3 hmu; obtain ⟨rfl, γ3, hh3⟩ := H.out.mut hmu; have H3 := Lib.hid hh3; have d4 := hh3.cI; rw [HFI.out] at d4; have d7 := hh3.cMin; have y4 := hh3.frozen (P.o + 4); have y7 := hh3.frozen (P.o + 7); clear hmu hh3)
            | (go_at_call 109; refine (less64 _ _ _).mono ?_; rintro e w' ⟨rfl, rfl⟩; rw [HLS.out]))
          go_ret
          exact ⟨rfl, γ3, (H3.out.setMin _).setI _⟩
        · rw [if_neg hnx]
          go_enter Tryd.func40, Tryd.ntmps40
          go_wp2_with (first
            | (go_at_call 108; refine HL.out.mono ?_; intro e w3 hmu; obtain ⟨rfl, γ3, hh3⟩ := H.out.mut hmu; have H3 := Lib.hid hh3; have d4 := hh3.cI; rw [HFI.out] at d4; have d7 := hh3.cMin; have y4 := hh3.frozen (P.o + 4); have y7 := hh3.frozen (P.o + 7); clear hmu hh3)
            | (go_at_call 109; refine (less64 _ _ _).mono ?_; rintro e w' ⟨rfl, rfl⟩; rw [HLS.out]))
          go_ret
          exact ⟨rfl, γ3, ((H3.out.setMin _).setI _).setI _⟩
      · rw [show minP M64 (n : Int) v f.min = f.min from if_neg (fun hh => hh.elim hz0 hls)]
        have HLS := Lib.hid (decide_eq_false hls)
        clear hls hz hz0
        by_cases hnx : (n : Int) + 1 < cells.length
        · rw [if_pos hnx]
          go_enter Tryd.func40, Tryd.ntmps40
          go_wp2_with (first
            | (go_at_call 108; refine HL.out.mono ?_; intro e w3 hmu; obtain ⟨rfl, γ3, hh3⟩ := H.out.mut hmu; have H3 := Lib.hid hh3; have d4 := hh3.cI; rw [HFI.out] at d4; have d7 := hh3.cMin; have y4 := hh3.frozen (P.o + 4); have y7 := hh3.frozen (P.o + 7); clear hmu hh3)
            | (go_at_call 109; refine (less64 _ _ _).mono ?_; rintro e w' ⟨rfl, rfl⟩; rw [HLS.out]))
          go_ret
          exact ⟨rfl, γ3, H3.out.setI _⟩
        · rw [if_neg hnx]
          go_enter Tryd.func40, Tryd.ntmps40
          go_wp2_with (first
            | (go_at_call 108; refine HL.out.mono ?_; intro e w3 hmu; obtain ⟨rfl, γ3, hh3⟩ := H.out.mut hmu; have H3 := Lib.hid hh3; have d4 := hh3.cI; rw [HFI.out] at d4; have d7 := hh3.cMin; have y4 := hh3.frozen (P.o + 4); have y7 := hh3.frozen (P.o + 7); clear hmu hh3)
            | (go_at_call 109; refine (less64 _ _ _).mono ?_; rintro e w' ⟨rfl, rfl⟩; rw [HLS.out]))
          go_ret
          exact ⟨rfl, γ3, (H3.out.setI _).setI _⟩
  · rw [if_pos hin]
    clear h hf hlen hA
    by_cases h0 : f.i < 0
    · go_enter Tryd.func40, Tryd.ntmps40
      go_wp2_with fail
      go_ret
      exact ⟨rfl, γ, H.out.setI _⟩
    · have h1 : (cells.length : Int) ≤ f.i := by omega
      go_enter Tryd.func40, Tryd.ntmps40
      go_wp2_with fail
      go_ret
      exact ⟨rfl, γ, H.out.setI _⟩
end Go.Proofs.YtnkmlopjinihiaaDoor
