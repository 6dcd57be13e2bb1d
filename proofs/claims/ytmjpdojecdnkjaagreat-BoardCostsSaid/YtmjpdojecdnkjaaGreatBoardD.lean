/- sakialaw12.small, great: an access that a struct tells of. -/
import Derived.Test.YtmjpdojecdnkjaaGreatBoardG
import Derived.Test.YtmjpdojecdnkjaaGreatMarkP
namespace Go.Proofs.YtmjpdojecdnkjaaGreat
open Go.RowKit
set_option linter.unusedVariables false
set_option linter.unusedSimpArgs false
set_option maxHeartbeats 2000000

/-- what an access of a kind comes to -/
def stepP (M : Int) (b : BS) (t k c n o v : Int) : (Int × Bool) × BS :=
  if k = 1 then (((b.load t c).1, false), (b.load t c).2)
  else if k = 2 then ((0, false), b.store t c (cutM M v))
  else if k = 3 then (((b.add M t c n).1, false), (b.add M t c n).2)
  else if k = 4 then ((0, (b.swap t c (cutM M o) (cutM M v)).1), (b.swap t c (cutM M o) (cutM M v)).2)
  else if k = 6 then (((b.read t c).1, false), (b.read t c).2)
  else if k = 7 then ((0, false), b.write t c (cutM M v))
  else if k = 8 then ((u64I (b.get t c).1, false), (b.get t c).2)
  else if k = 9 then ((0, false), b.put t c n)
  else ((0, false), b)
theorem inM0 {M : Int} (hM : M = M32 ∨ M = M64) : InM M 0 := by rcases hM with rfl | rfl <;> exact ⟨by decide, by decide⟩
section
variable {M : Int} {b : BS}
theorem BS.Ok.load_in (h : b.Ok M) (hM : M = M32 ∨ M = M64) (t k : Int) : InM M (b.load t k).1 := by
  unfold BS.load; split
  · rename_i hk; obtain ⟨_, _, _, hh⟩ := h.cell (.inl hk); exact hh
  · exact inM0 hM
theorem BS.Ok.read_in (h : b.Ok M) (hM : M = M32 ∨ M = M64) (t k : Int) : InM M (b.read t k).1 := by
  unfold BS.read; split
  · rename_i hk; obtain ⟨_, _, _, hh⟩ := h.cell (.inr hk); exact hh
  · exact inM0 hM
theorem BS.Ok.add_in (h : b.Ok M) (hM : M = M32 ∨ M = M64) (t k n : Int) : InM M (b.add M t k n).1 := by
  unfold BS.add; split
  · rename_i hk; obtain ⟨_, _, _, hh⟩ := h.cell (.inl hk); exact hh
  · exact inM0 hM
theorem BS.Fit.get (h : b.Fit M) (t s : Int) : (b.get t s).2.Fit M := by
  unfold BS.get; split
  · exact h.note _ _ _ _ _
  · exact h
theorem BS.Fit.put (h : b.Fit M) (t s v : Int) (hv : -9223372036854775808 ≤ v ∧ v ≤ 9223372036854775807) : (b.put t s v).Fit M := by
  unfold BS.put; split
  · refine h.same rfl ⟨h.ok.bd, h.ok.pos, h.ok.all, h.ok.nc, by simpa using h.ok.nd, h.ok.inM, fun x hx => ?_⟩
    rcases List.mem_or_eq_of_mem_set hx with h1 | rfl
    · exact h.ok.dat x h1
    · exact hv
  · exact h
theorem stepP_fit (h : b.Fit M) (t k c n o v : Int) (hn : -9223372036854775808 ≤ n ∧ n ≤ 9223372036854775807) : (stepP M b t k c n o v).2.Fit M := by
  have hc : InM M (cutM M v) := cutM_in h.M2 v
  unfold stepP
  split
  · exact h.load _ _
  · split
    · exact h.store _ _ hc
    · split
      · exact h.add _ _ _
      · split
        · exact h.swap _ _ _ hc
        · split
          · exact h.read _ _
          · split
            · exact h.write _ _ hc
            · split
              · exact h.get _ _
              · split
                · exact h.put _ _ _ hn
                · exact h
theorem stepP_log (M : Int) (b : BS) (t k c n o v : Int) : (stepP M b t k c n o v).2.log.length ≤ b.log.length + 1 := by
  unfold stepP BS.load BS.store BS.add BS.swap BS.read BS.write BS.get BS.put BS.lay BS.look BS.note
  repeat' split
  all_goals simp
theorem stepP_l (M : Int) (b : BS) (t k c n o v : Int) : (stepP M b t k c n o v).2.l = b.l := by
  unfold stepP BS.load BS.store BS.add BS.swap BS.read BS.write BS.get BS.put BS.lay BS.look BS.note
  repeat' split
  all_goals rfl
end
theorem great12 (w : World) (γ : Nat → Nat) (id p : Nat) (b : BS) (h : BoardAt 97 22 110 .u64 w γ id p b) (hf : b.Fit M64) (hlen : b.log.length ≤ 1000000) (t k c n o v : Int) (ho : 0 ≤ o ∧ o ≤ 18446744073709551615) (hv : 0 ≤ v ∧ v ≤ 18446744073709551615) :
    Calls Tryz.prog 15 #[.pointer (some ⟨p, 0, none⟩), .agg #[.int .i64 t, .int .i64 k, .int .i64 c, .int .i64 n, .int .u64 o, .int .u64 v]] w
      (MutEnd 97 22 110 .u64 w γ id p (.tuple #[.int .u64 (stepP M64 b t k c n o v).1.1, .bool (stepP M64 b t k c n o v).1.2]) (stepP M64 b t k c n o v).2) := by
  have H := Lib.hid h
  have hM : M64 = M32 ∨ M64 = M64 := by first | exact .inl rfl | exact .inr rfl
  have hcv : InM M64 (cutM M64 v) := cutM_in64 v
  have e1 : cutM M64 v = v := by unfold cutM M64; omega
  have e2 : cutM M64 o = o := by unfold cutM M64; omega
  unfold stepP
  by_cases h1 : k = 1
  · subst h1
    rw [if_pos rfl]
    have HQ := Lib.hid (fun W (hW : Below w.heap.size w W) => bLoad64 W γ id p b (h.below hW) hf.ok hlen t c)
    have hi := hf.ok.load_in hM t c
    generalize b.load t c = r at *
    obtain ⟨x, b2⟩ := r
    dsimp only at *
    clear h hf hlen hcv ho hv
    go_enter Tryz.func15, Tryz.ntmps15
    go_wp2_with (go_at_call 52; refine (HQ.out _ (by repeat (with_reducible first | exact Below.refl _ _ | refine Below.drew ?_ | refine below_drewN ?_ _ | refine Below.alloc ?_ (by simp) _))).mono ?_; rintro e w2 ⟨rfl, γ', hB2, hfr⟩; have HB := Lib.hid (And.intro hB2 hfr); clear hB2 hfr)
    refine bodyPost_ret (v := .tuple #[.int .u64 x, .bool false]) ?_ rfl ?_
    · simp only [results, Tryz.results15]
      go_simp
    · exact ⟨rfl, γ', HB.out.1, (Fr.of_below (by repeat (with_reducible first | exact Below.refl _ _ | refine Below.drew ?_ | refine below_drewN ?_ _ | refine Below.alloc ?_ (by simp) _)) _ _).trans HB.out.2⟩
  · rw [if_neg h1]
    have n1 : (k == 1) = false := by simp [h1]
    by_cases h2 : k = 2
    · subst h2
      rw [if_pos rfl]
      have HQ := Lib.hid (fun W (hW : Below w.heap.size w W) => bStore64 W γ id p b (h.below hW) hf.ok hlen t c (cutM M64 v) hcv)
      rw [e1] at HQ ⊢
      clear h hf hlen hcv ho hv
      go_enter Tryz.func15, Tryz.ntmps15
      go_wp2_with (go_at_call 53; refine (HQ.out _ (by repeat (with_reducible first | exact Below.refl _ _ | refine Below.drew ?_ | refine below_drewN ?_ _ | refine Below.alloc ?_ (by simp) _))).mono ?_; rintro e w2 ⟨rfl, γ', hB2, hfr⟩; have HB := Lib.hid (And.intro hB2 hfr); clear hB2 hfr)
      refine bodyPost_ret (v := .tuple #[.int .u64 0, .bool false]) ?_ rfl ?_
      · simp only [results, Tryz.results15]
        go_simp
      · exact ⟨rfl, γ', HB.out.1, (Fr.of_below (by repeat (with_reducible first | exact Below.refl _ _ | refine Below.drew ?_ | refine below_drewN ?_ _ | refine Below.alloc ?_ (by simp) _)) _ _).trans HB.out.2⟩
    · rw [if_neg h2]
      have n2 : (k == 2) = false := by simp [h2]
      by_cases h3 : k = 3
      · subst h3
        rw [if_pos rfl]
        have HQ := Lib.hid (fun W (hW : Below w.heap.size w W) => bAdd64 W γ id p b (h.below hW) hf.ok hlen t c n)
        have hi := hf.ok.add_in hM t c n
        generalize b.add M64 t c n = r at *
        obtain ⟨x, b2⟩ := r
        dsimp only at *
        clear h hf hlen hcv ho hv
        go_enter Tryz.func15, Tryz.ntmps15
        go_wp2_with (go_at_call 54; refine (HQ.out _ (by repeat (with_reducible first | exact Below.refl _ _ | refine Below.drew ?_ | refine below_drewN ?_ _ | refine Below.alloc ?_ (by simp) _))).mono ?_; rintro e w2 ⟨rfl, γ', hB2, hfr⟩; have HB := Lib.hid (And.intro hB2 hfr); clear hB2 hfr)
        refine bodyPost_ret (v := .tuple #[.int .u64 x, .bool false]) ?_ rfl ?_
        · simp only [results, Tryz.results15]
          go_simp
        · exact ⟨rfl, γ', HB.out.1, (Fr.of_below (by repeat (with_reducible first | exact Below.refl _ _ | refine Below.drew ?_ | refine below_drewN ?_ _ | refine Below.alloc ?_ (by simp) _)) _ _).trans HB.out.2⟩
      · rw [if_neg h3]
        have n3 : (k == 3) = false := by simp [h3]
        by_cases h4 : k = 4
        · subst h4
          rw [if_pos rfl]
          have HQ := Lib.hid (fun W (hW : Below w.heap.size w W) => bSwap64 W γ id p b (h.below hW) hf.ok hlen t c (cutM M64 o) (cutM M64 v) hcv)
          rw [e1] at HQ ⊢
          rw [e2] at HQ ⊢
          generalize b.swap t c _ _ = r at *
          obtain ⟨x, b2⟩ := r
          dsimp only at *
          clear h hf hlen hcv ho hv
          go_enter Tryz.func15, Tryz.ntmps15
          go_wp2_with (go_at_call 55; refine (HQ.out _ (by repeat (with_reducible first | exact Below.refl _ _ | refine Below.drew ?_ | refine below_drewN ?_ _ | refine Below.alloc ?_ (by simp) _))).mono ?_; rintro e w2 ⟨rfl, γ', hB2, hfr⟩; have HB := Lib.hid (And.intro hB2 hfr); clear hB2 hfr)
          refine bodyPost_ret (v := .tuple #[.int .u64 0, .bool x]) ?_ rfl ?_
          · simp only [results, Tryz.results15]
            go_simp
          · exact ⟨rfl, γ', HB.out.1, (Fr.of_below (by repeat (with_reducible first | exact Below.refl _ _ | refine Below.drew ?_ | refine below_drewN ?_ _ | refine Below.alloc ?_ (by simp) _)) _ _).trans HB.out.2⟩
        · rw [if_neg h4]
          have n4 : (k == 4) = false := by simp [h4]
          by_cases h6 : k = 6
          · subst h6
            rw [if_pos rfl]
            have HQ := Lib.hid (fun W (hW : Below w.heap.size w W) => bRead64 W γ id p b (h.below hW) hf.ok hlen t c)
            have hi := hf.ok.read_in hM t c
            generalize b.read t c = r at *
            obtain ⟨x, b2⟩ := r
            dsimp only at *
            clear h hf hlen hcv ho hv
            go_enter Tryz.func15, Tryz.ntmps15
            go_wp2_with (go_at_call 56; refine (HQ.out _ (by repeat (with_reducible first | exact Below.refl _ _ | refine Below.drew ?_ | refine below_drewN ?_ _ | refine Below.alloc ?_ (by simp) _))).mono ?_; rintro e w2 ⟨rfl, γ', hB2, hfr⟩; have HB := Lib.hid (And.intro hB2 hfr); clear hB2 hfr)
            refine bodyPost_ret (v := .tuple #[.int .u64 x, .bool false]) ?_ rfl ?_
            · simp only [results, Tryz.results15]
              go_simp
            · exact ⟨rfl, γ', HB.out.1, (Fr.of_below (by repeat (with_reducible first | exact Below.refl _ _ | refine Below.drew ?_ | refine below_drewN ?_ _ | refine Below.alloc ?_ (by simp) _)) _ _).trans HB.out.2⟩
          · rw [if_neg h6]
            have n6 : (k == 6) = false := by simp [h6]
            by_cases h7 : k = 7
            · subst h7
              rw [if_pos rfl]
              have HQ := Lib.hid (fun W (hW : Below w.heap.size w W) => bWrite64 W γ id p b (h.below hW) hf.ok hlen t c (cutM M64 v) hcv)
              rw [e1] at HQ ⊢
              clear h hf hlen hcv ho hv
              go_enter Tryz.func15, Tryz.ntmps15
              go_wp2_with (go_at_call 57; refine (HQ.out _ (by repeat (with_reducible first | exact Below.refl _ _ | refine Below.drew ?_ | refine below_drewN ?_ _ | refine Below.alloc ?_ (by simp) _))).mono ?_; rintro e w2 ⟨rfl, γ', hB2, hfr⟩; have HB := Lib.hid (And.intro hB2 hfr); clear hB2 hfr)
              refine bodyPost_ret (v := .tuple #[.int .u64 0, .bool false]) ?_ rfl ?_
              · simp only [results, Tryz.results15]
                go_simp
              · exact ⟨rfl, γ', HB.out.1, (Fr.of_below (by repeat (with_reducible first | exact Below.refl _ _ | refine Below.drew ?_ | refine below_drewN ?_ _ | refine Below.alloc ?_ (by simp) _)) _ _).trans HB.out.2⟩
            · rw [if_neg h7]
              have n7 : (k == 7) = false := by simp [h7]
              by_cases h8 : k = 8
              · subst h8
                rw [if_pos rfl]
                have HQ := Lib.hid (fun W (hW : Below w.heap.size w W) => bGet64 W γ id p b (h.below hW) hf.ok hlen t c)
                generalize b.get t c = r at *
                obtain ⟨x, b2⟩ := r
                dsimp only at *
                have hx3 : IntKind.u64.wrap x = u64I x := by simp [IntKind.wrap, IntKind.bits, IntKind.signed, u64I]
                have hx4 : x % 18446744073709551616 = u64I x := rfl
                clear h hf hlen hcv ho hv
                go_enter Tryz.func15, Tryz.ntmps15
                go_wp2_with (go_at_call 58; refine (HQ.out _ (by repeat (with_reducible first | exact Below.refl _ _ | refine Below.drew ?_ | refine below_drewN ?_ _ | refine Below.alloc ?_ (by simp) _))).mono ?_; rintro e w2 ⟨rfl, γ', hB2, hfr⟩; have HB := Lib.hid (And.intro hB2 hfr); clear hB2 hfr)
                refine bodyPost_ret (v := .tuple #[.int .u64 (u64I x), .bool false]) ?_ rfl ?_
                · simp only [results, Tryz.results15]
                  go_simp
                · exact ⟨rfl, γ', HB.out.1, (Fr.of_below (by repeat (with_reducible first | exact Below.refl _ _ | refine Below.drew ?_ | refine below_drewN ?_ _ | refine Below.alloc ?_ (by simp) _)) _ _).trans HB.out.2⟩
              · rw [if_neg h8]
                have n8 : (k == 8) = false := by simp [h8]
                by_cases h9 : k = 9
                · subst h9
                  rw [if_pos rfl]
                  have HQ := Lib.hid (fun W (hW : Below w.heap.size w W) => bSet64 W γ id p b (h.below hW) hf.ok hlen t c n)
                  clear h hf hlen hcv ho hv
                  go_enter Tryz.func15, Tryz.ntmps15
                  go_wp2_with (go_at_call 59; refine (HQ.out _ (by repeat (with_reducible first | exact Below.refl _ _ | refine Below.drew ?_ | refine below_drewN ?_ _ | refine Below.alloc ?_ (by simp) _))).mono ?_; rintro e w2 ⟨rfl, γ', hB2, hfr⟩; have HB := Lib.hid (And.intro hB2 hfr); clear hB2 hfr)
                  refine bodyPost_ret (v := .tuple #[.int .u64 0, .bool false]) ?_ rfl ?_
                  · simp only [results, Tryz.results15]
                    go_simp
                  · exact ⟨rfl, γ', HB.out.1, (Fr.of_below (by repeat (with_reducible first | exact Below.refl _ _ | refine Below.drew ?_ | refine below_drewN ?_ _ | refine Below.alloc ?_ (by simp) _)) _ _).trans HB.out.2⟩
                · rw [if_neg h9]
                  have n9 : (k == 9) = false := by simp [h9]
                  clear h hf hlen hcv ho hv
                  go_enter Tryz.func15, Tryz.ntmps15
                  go_wp2_with fail
                  refine bodyPost_ret (v := .tuple #[.int .u64 0, .bool false]) ?_ rfl ?_
                  · simp only [results, Tryz.results15]
                    go_simp
                  · exact ⟨rfl, γ, H.out.below (by repeat (with_reducible first | exact Below.refl _ _ | refine Below.drew ?_ | refine below_drewN ?_ _ | refine Below.alloc ?_ (by simp) _)), Fr.of_below (by repeat (with_reducible first | exact Below.refl _ _ | refine Below.drew ?_ | refine below_drewN ?_ _ | refine Below.alloc ?_ (by simp) _)) _ _⟩
end Go.Proofs.YtmjpdojecdnkjaaGreat
