/- Contracts of mark's functions on registers, for both widths. -/
import Derived.Test.YtnkmlopjinihiaaDoorMark
namespace Go.Proofs.YtnkmlopjinihiaaDoor
open Go.RowKit
set_option linter.unusedVariables false
set_option linter.unusedSimpArgs false
set_option maxHeartbeats 2000000

theorem minside32 (w : World) (fb o : Nat) (i n : Int) (h1 : w.cell? ⟨fb, o + 1, none⟩ = some (.int .i64 n)) (h4 : w.cell? ⟨fb, o + 4, none⟩ = some (.int .i64 i)) :
    Calls Tryd.prog 185 #[.pointer (some ⟨fb, o, none⟩)] w fun e w' => e = .returned (.bool (decide (0 ≤ i ∧ i < n))) ∧ ∃ m, w' = w.drewN m := by
  by_cases h0 : 0 ≤ i
  · go_enter Tryd.func185, Tryd.ntmps185
    go_wp2_with fail
    go_quiet (fail)
    go_wp2_with fail
    go_ret
    exact ⟨ret_bool (by simp [h0]), _, rfl⟩
  · have hd : decide (0 ≤ i) = false := by simpa using h0
    have hd3 : i < 0 := by omega
    clear h0
    go_enter Tryd.func185, Tryd.ntmps185
    go_wp2_with fail
    go_quiet (fail)
    go_wp2_with fail
    go_ret
    exact ⟨ret_bool (by have h9 : ¬ (0 ≤ i ∧ i < n) := by omega
                        simp [h9]), _, rfl⟩
theorem mpublish32 (P : BFP) (w0 : World) (γ0 : Nat → Nat) (w : World) (γ : Nat → Nat) (b : BS) (f : FrS) (h : BFAt 132 48 208 .u32 P w0 γ0 w γ b f) (hf : b.Fit M32) (hlen : b.log.length ≤ 1000000) (t : Int) (hn : f.n ≤ 9223372036854775807) :
    Calls Tryd.prog 142 #[.pointer (some ⟨P.p, 0, none⟩), .int .i64 t, .pointer (some ⟨P.fb, P.o, none⟩)] w
      (BFEnd 132 48 208 .u32 P w0 γ0 (.bool (publishP M32 b t f).1) (publishP M32 b t f).2.1 (publishP M32 b t f).2.2) := by
  have H := Lib.hid h
  have HH := Lib.hid (mhas32 w γ P.id P.p b h.brd)
  have HY := Lib.hid (fun W (hW : BFAt 132 48 208 .u32 P w0 γ0 W γ b f) => mlay32 W γ P.id P.p b hW.brd hf hlen t (addM M32 f.from_ f.i) (addM_in32 _ _))
  clear hf hlen h
  unfold publishP
  by_cases hm : b.hasM = false
  · rw [if_pos hm]
    rw [hm] at HH
    clear hm
    go_enter Tryd.func142, Tryd.ntmps142
    go_wp2_with (go_at_call 184; refine HH.out.mono ?_; rintro e w1 ⟨rfl, hb1⟩; have HB1 := Lib.hid hb1; clear hb1)
    go_ret
    exact ⟨rfl, γ, H.out.below HB1.out⟩
  · rw [if_neg hm]
    rw [show b.hasM = true by simpa using hm] at HH
    clear hm
    by_cases hin : f.inside
    · rw [if_pos hin]
      unfold FrS.inside at hin
      have hi0 := hin.1
      have hi1 : f.i < f.n := hin.2
      have hd1 : decide (0 ≤ f.i ∧ f.i < f.n) = true := decide_eq_true hin
      clear hin
      have hw : wrap64 (f.i + 1) = f.i + 1 := wrap64_id (by omega)
      by_cases hnx : f.i + 1 < f.n
      · rw [if_pos hnx]
        have hd2 : decide (0 ≤ f.i + 1 ∧ f.i + 1 < f.n) = true := decide_eq_true ⟨by omega, hnx⟩
        have HD := Lib.hid (And.intro hd1 hd2)
        clear hd1 hd2 hi0 hi1 hnx hn
        go_enter Tryd.func142, Tryd.ntmps142
        go_wp2_with (first
          | (go_at_call 184; refine HH.out.mono ?_; rintro e w1 ⟨rfl, hb1⟩; have H1 := Lib.hid (H.out.below hb1); clear hb1; have c1 := H1.out.cN; have c4 := H1.out.cI; have c6 := H1.out.cFrom; have z40 := H1.out.frozen (P.o + 4))
          | (go_at_call 185; refine (minside32 _ _ _ f.i f.n (by simp [*]) (by simp [*])).mono ?_; rintro e w' ⟨rfl, m, rfl⟩; rw [HD.out.1]))
        go_region_held3 (fun w' => w'.cell? ⟨P.fb, P.o + 4, none⟩ = some (.int .i64 f.i) ∧ w'.cell? ⟨P.fb, P.o + 6, none⟩ = some (.int .u32 f.from_)) (go_keep)
          (first
          | (go_at_call 35; refine (add32 _ _ _).mono ?_; rintro e w' ⟨rfl, rfl⟩)
          | (go_at_call 186
             refine (HY.out _ (H1.out.below (by repeat (first | exact Below.refl _ _ | refine Below.drew ?_ | refine below_drewN ?_ _)))).mono ?_
             intro e w3 hmu
             obtain ⟨rfl, γ3, hh3⟩ := (H1.out.below (by repeat (first | exact Below.refl _ _ | refine Below.drew ?_ | refine below_drewN ?_ _))).mut hmu
             have H3 := Lib.hid hh3; clear hmu hh3; have d1 := H3.out.cN; have d4 := H3.out.cI; have d6 := H3.out.cFrom; have z4 := H3.out.frozen (P.o + 4)))
        go_wp2_with (first
          | (go_at_call 185; refine (minside32 _ _ _ (f.i + 1) f.n (H3.out.setI (f.i + 1)).cN (H3.out.setI (f.i + 1)).cI).mono ?_; rintro e w' ⟨rfl, m, rfl⟩; rw [HD.out.2]))
        go_ret
        exact ⟨rfl, γ3, (H3.out.setI _).drewN _⟩
      · rw [if_neg hnx]
        have hd2 : decide (0 ≤ f.i + 1 ∧ f.i + 1 < f.n) = false := decide_eq_false (fun hx => hnx hx.2)
        have HD := Lib.hid (And.intro hd1 hd2)
        clear hd1 hd2 hi0 hi1 hnx hn
        go_enter Tryd.func142, Tryd.ntmps142
        go_wp2_with (first
          | (go_at_call 184; refine HH.out.mono ?_; rintro e w1 ⟨rfl, hb1⟩; have H1 := Lib.hid (H.out.below hb1); clear hb1; have c1 := H1.out.cN; have c4 := H1.out.cI; have c6 := H1.out.cFrom; have z40 := H1.out.frozen (P.o + 4))
          | (go_at_call 185; refine (minside32 _ _ _ f.i f.n (by simp [*]) (by simp [*])).mono ?_; rintro e w' ⟨rfl, m, rfl⟩; rw [HD.out.1]))
        go_region_held3 (fun w' => w'.cell? ⟨P.fb, P.o + 4, none⟩ = some (.int .i64 f.i) ∧ w'.cell? ⟨P.fb, P.o + 6, none⟩ = some (.int .u32 f.from_)) (go_keep)
          (first
          | (go_at_call 35; refine (add32 _ _ _).mono ?_; rintro e w' ⟨rfl, rfl⟩)
          | (go_at_call 186
             refine (HY.out _ (H1.out.below (by repeat (first | exact Below.refl _ _ | refine Below.drew ?_ | refine below_drewN ?_ _)))).mono ?_
             intro e w3 hmu
             obtain ⟨rfl, γ3, hh3⟩ := (H1.out.below (by repeat (first | exact Below.refl _ _ | refine Below.drew ?_ | refine below_drewN ?_ _))).mut hmu
             have H3 := Lib.hid hh3; clear hmu hh3; have d1 := H3.out.cN; have d4 := H3.out.cI; have d6 := H3.out.cFrom; have z4 := H3.out.frozen (P.o + 4)))
        go_wp2_with (first
          | (go_at_call 185; refine (minside32 _ _ _ (f.i + 1) f.n (H3.out.setI (f.i + 1)).cN (H3.out.setI (f.i + 1)).cI).mono ?_; rintro e w' ⟨rfl, m, rfl⟩; rw [HD.out.2]))
        go_ret
        exact ⟨rfl, γ3, ((H3.out.setI _).drewN _).setI 0⟩
    · rw [if_neg hin]
      unfold FrS.inside at hin
      have hd1 : decide (0 ≤ f.i ∧ f.i < f.n) = false := decide_eq_false hin
      have HD := Lib.hid hd1
      clear hd1 hin hn
      go_enter Tryd.func142, Tryd.ntmps142
      go_wp2_with (first
        | (go_at_call 184; refine HH.out.mono ?_; rintro e w1 ⟨rfl, hb1⟩; have H1 := Lib.hid (H.out.below hb1); clear hb1; have c1 := H1.out.cN; have c4 := H1.out.cI; have c6 := H1.out.cFrom; have z40 := H1.out.frozen (P.o + 4))
        | (go_at_call 185; refine (minside32 _ _ _ f.i f.n (by simp [*]) (by simp [*])).mono ?_; rintro e w' ⟨rfl, m, rfl⟩; rw [HD.out]))
      go_ret
      exact ⟨rfl, γ, (H1.out.drewN _).setI 0⟩
theorem mseek32 (P : BFP) (w0 : World) (γ0 : Nat → Nat) (w : World) (γ : Nat → Nat) (b : BS) (f : FrS) (h : BFAt 132 48 208 .u32 P w0 γ0 w γ b f) (hf : b.Fit M32) (hlen : b.log.length ≤ 1000000) (t : Int) (hv : InM M32 f.val) :
    Calls Tryd.prog 143 #[.pointer (some ⟨P.p, 0, none⟩), .int .i64 t, .pointer (some ⟨P.fb, P.o, none⟩)] w
      (BFEnd 132 48 208 .u32 P w0 γ0 (.bool (seekP M32 b t f).1) (seekP M32 b t f).2.1 (seekP M32 b t f).2.2) := by
  have H := Lib.hid h
  have HH := Lib.hid (mhas32 w γ P.id P.p b h.brd)
  have HY := Lib.hid (fun W (hW : BFAt 132 48 208 .u32 P w0 γ0 W γ b f) => mlook32 W γ P.id P.p b hW.brd hf hlen t f.val hv)
  clear hf hlen h
  unfold seekP
  by_cases hm : b.hasM = false
  · rw [if_pos hm]
    rw [hm] at HH
    clear hm
    go_enter Tryd.func143, Tryd.ntmps143
    go_wp2_with (go_at_call 184; refine HH.out.mono ?_; rintro e w1 ⟨rfl, hb1⟩; have HB1 := Lib.hid hb1; clear hb1)
    go_ret
    exact ⟨rfl, γ, H.out.below HB1.out⟩
  · rw [if_neg hm]
    rw [show b.hasM = true by simpa using hm] at HH
    clear hm
    cases hl : (b.mlook t f.val).1
    · rw [hl] at HY
      rw [if_neg (by decide)]
      clear hl
      go_enter Tryd.func143, Tryd.ntmps143
      go_wp2_with (first
        | (go_at_call 184; refine HH.out.mono ?_; rintro e w1 ⟨rfl, hb1⟩; have H1 := Lib.hid (H.out.below hb1); clear hb1; have c8 := H1.out.cVal)
        | (go_at_call 187; refine (HY.out _ H1.out).mono ?_; intro e w3 hmu; obtain ⟨rfl, γ3, hh3⟩ := H1.out.mut hmu; have H3 := Lib.hid hh3; clear hmu hh3))
      go_ret
      exact ⟨rfl, γ3, H3.out⟩
    · rw [hl] at HY
      rw [if_pos rfl]
      clear hl
      go_enter Tryd.func143, Tryd.ntmps143
      go_wp2_with (first
        | (go_at_call 184; refine HH.out.mono ?_; rintro e w1 ⟨rfl, hb1⟩; have H1 := Lib.hid (H.out.below hb1); clear hb1; have c8 := H1.out.cVal)
        | (go_at_call 35; refine (add32 _ _ _).mono ?_; rintro e w' ⟨rfl, rfl⟩)
        | (go_at_call 187; refine (HY.out _ H1.out).mono ?_; intro e w3 hmu; obtain ⟨rfl, γ3, hh3⟩ := H1.out.mut hmu; have H3 := Lib.hid hh3; clear hmu hh3; have d8 := H3.out.cVal; have z8 := H3.out.frozen (P.o + 8)))
      go_ret
      exact ⟨rfl, γ3, H3.out.setVal _⟩
end Go.Proofs.YtnkmlopjinihiaaDoor
