/- mark.Prefix, for both widths. -/
import Derived.Test.YthnmpndofkgppaaMark2
namespace Go.Proofs.Ythnmpndofkgppaa
open Go.RowKit
set_option linter.unusedVariables false
set_option linter.unusedSimpArgs false
set_option maxHeartbeats 2000000

/-- how many are marked from the k-th on, at most n of them, and k -/
def prefixGo (M : Int) (b : BS) (from_ : Int) : Nat → Nat → Nat
  | 0, k => k
  | n + 1, k => if b.marked (addM M from_ k) then prefixGo M b from_ n (k + 1) else k
def prefixP (M : Int) (b : BS) (from_ most : Int) : Int := if b.hasM then (prefixGo M b from_ (min most b.l.c.cap).toNat 0 : Nat) else 0
theorem mprefix32 (w : World) (γ : Nat → Nat) (id p : Nat) (b : BS) (h : BoardAt 68 36 92 .u32 w γ id p b) (hf : b.Fit M32) (from_ most : Int) :
    Calls Try.prog 27 #[.pointer (some ⟨p, 0, none⟩), .int .u32 from_, .int .i64 most] w fun e w' => e = .returned (.int .i64 (prefixP M32 b from_ most)) ∧ Below w.heap.size w w' := by
  have HH := Lib.hid (mhas32 w γ id p b h)
  have HL := Lib.hid (fun W (hW : Below w.heap.size w W) => calls_chain hW (bLayout32 W γ id p b (h.below hW)))
  rw [lay_eta b.l] at HL
  unfold Lay.vs at HL
  have HM := Lib.hid (fun k W (hW : Below w.heap.size w W) => calls_chain hW (mmarked32 W γ id p b (h.below hW) hf (addM M32 from_ k) (addM_in32 _ _)))
  have hcap := hf.cap.bd
  unfold prefixP
  cases hm : b.hasM
  · rw [hm] at HH
    rw [if_neg (by decide)]
    clear hm h hf
    go_enter Try.func27, Try.ntmps27
    go_wp2_with (go_at_call 32; refine HH.out.mono ?_; rintro e w1 ⟨rfl, hb1⟩; have HB1 := Lib.hid hb1; clear hb1)
    go_ret
    exact ⟨rfl, HB1.out⟩
  · rw [hm] at HH
    rw [if_pos rfl]
    clear hm h hf
    have hf1 := fld_conf
    have hf2 := fld_cap
    by_cases hmc : b.l.c.cap < most
    · rw [show min most b.l.c.cap = b.l.c.cap by omega]
      have hB64 : (b.l.c.cap).toNat ≤ 64 := by omega
      go_enter Try.func27, Try.ntmps27
      go_wp2_with (go_at_call 32; refine HH.out.mono ?_; rintro e w1 ⟨rfl, hb1⟩; have HB1 := Lib.hid hb1; clear hb1)
      go_loopw [7] (fun i wr => ∃ k : Nat, i = .int .i64 k ∧ k ≤ (b.l.c.cap).toNat ∧ prefixGo M32 b from_ (b.l.c.cap).toNat 0 = prefixGo M32 b from_ ((b.l.c.cap).toNat - k) k ∧ Below w.heap.size w wr) (fun i _ => (b.l.c.cap).toNat - (intOf i).toNat)
      case atStart => exact ⟨0, rfl, by omega, rfl, HB1.out⟩
      case round =>
        obtain ⟨k, rfl, hk, hgo, hbe⟩ := hrel
        have HGO := Lib.hid hgo
        have HBE := Lib.hid hbe
        clear hgo hbe
        by_cases hlt : (k : Int) < b.l.c.cap
        · have hd : decide ((k : Int) < b.l.c.cap) = true := decide_eq_true hlt
          have hgk : prefixGo M32 b from_ ((b.l.c.cap).toNat - k) k = if b.marked (addM M32 from_ k) then prefixGo M32 b from_ ((b.l.c.cap).toNat - (k + 1)) (k + 1) else k := by
            rw [show (b.l.c.cap).toNat - k = ((b.l.c.cap).toNat - (k + 1)) + 1 by omega]; rfl
          have HK := Lib.hid (And.intro hlt hgk)
          clear hlt hgk
          cases hmk : b.marked (addM M32 from_ k)
          · have hmm := HM.out k
            rw [hmk] at hmm
            have HMM := Lib.hid hmm
            clear hmm
            go_wp2_with (first
              | (go_at_call 62; refine (HL.out _ HBE.out).mono ?_; rintro e w2 ⟨rfl, hb2, hB2⟩; have HB2 := Lib.hid hB2; clear hb2 hB2)
              | (go_at_call 14; refine (add32 _ _ _).mono ?_; rintro e w' ⟨rfl, rfl⟩)
              | (go_at_call 13; refine (HMM.out _ HB2.out).mono ?_; rintro e w3 ⟨rfl, hb3, hB3⟩; have HB3 := Lib.hid hB3; clear hb3 hB3))
            go_ret
            exact ⟨ret_int (by rw [HGO.out, HK.out.2, hmk]; simp), HB3.out⟩
          · have hmm := HM.out k
            rw [hmk] at hmm
            have HMM := Lib.hid hmm
            clear hmm
            go_wp2_with (first
              | (go_at_call 62; refine (HL.out _ HBE.out).mono ?_; rintro e w2 ⟨rfl, hb2, hB2⟩; have HB2 := Lib.hid hB2; clear hb2 hB2)
              | (go_at_call 14; refine (add32 _ _ _).mono ?_; rintro e w' ⟨rfl, rfl⟩)
              | (go_at_call 13; refine (HMM.out _ HB2.out).mono ?_; rintro e w3 ⟨rfl, hb3, hB3⟩; have HB3 := Lib.hid hB3; clear hb3 hB3))
            go_round
            case rel => exact ⟨k + 1, by go_num, by have := HK.out.1; omega, by rw [HGO.out, HK.out.2, hmk]; simp, HB3.out⟩
            case measure => have := HK.out.1; simp only [intOf]; omega
        · have hd : decide ((k : Int) < b.l.c.cap) = false := decide_eq_false hlt
          have hk0 : (b.l.c.cap).toNat - k = 0 := by omega
          have HK := Lib.hid hk0
          clear hlt hk0
          go_wp2_with (first
            | (go_at_call 62; refine (HL.out _ HBE.out).mono ?_; rintro e w2 ⟨rfl, hb2, hB2⟩; have HB2 := Lib.hid hB2; clear hb2 hB2))
          go_ret
          exact ⟨ret_int (by rw [HGO.out, HK.out]; rfl), HB2.out⟩
    · rw [show min most b.l.c.cap = most by omega]
      have hmc2 : decide (b.l.c.cap < most) = false := decide_eq_false hmc
      have hB64 : (most).toNat ≤ 64 := by omega
      go_enter Try.func27, Try.ntmps27
      go_wp2_with (go_at_call 32; refine HH.out.mono ?_; rintro e w1 ⟨rfl, hb1⟩; have HB1 := Lib.hid hb1; clear hb1)
      go_loopw [7] (fun i wr => ∃ k : Nat, i = .int .i64 k ∧ k ≤ (most).toNat ∧ prefixGo M32 b from_ (most).toNat 0 = prefixGo M32 b from_ ((most).toNat - k) k ∧ Below w.heap.size w wr) (fun i _ => (most).toNat - (intOf i).toNat)
      case atStart => exact ⟨0, rfl, by omega, rfl, HB1.out⟩
      case round =>
        obtain ⟨k, rfl, hk, hgo, hbe⟩ := hrel
        have HGO := Lib.hid hgo
        have HBE := Lib.hid hbe
        clear hgo hbe
        by_cases hlt : (k : Int) < most
        · have hd : decide ((k : Int) < most) = true := decide_eq_true hlt
          have hgk : prefixGo M32 b from_ ((most).toNat - k) k = if b.marked (addM M32 from_ k) then prefixGo M32 b from_ ((most).toNat - (k + 1)) (k + 1) else k := by
            rw [show (most).toNat - k = ((most).toNat - (k + 1)) + 1 by omega]; rfl
          have HK := Lib.hid (And.intro hlt hgk)
          clear hlt hgk
          cases hmk : b.marked (addM M32 from_ k)
          · have hmm := HM.out k
            rw [hmk] at hmm
            have HMM := Lib.hid hmm
            clear hmm
            go_wp2_with (first
              | (go_at_call 62; refine (HL.out _ HBE.out).mono ?_; rintro e w2 ⟨rfl, hb2, hB2⟩; have HB2 := Lib.hid hB2; clear hb2 hB2)
              | (go_at_call 14; refine (add32 _ _ _).mono ?_; rintro e w' ⟨rfl, rfl⟩)
              | (go_at_call 13; refine (HMM.out _ HB2.out).mono ?_; rintro e w3 ⟨rfl, hb3, hB3⟩; have HB3 := Lib.hid hB3; clear hb3 hB3))
            go_ret
            exact ⟨ret_int (by rw [HGO.out, HK.out.2, hmk]; simp), HB3.out⟩
          · have hmm := HM.out k
            rw [hmk] at hmm
            have HMM := Lib.hid hmm
            clear hmm
            go_wp2_with (first
              | (go_at_call 62; refine (HL.out _ HBE.out).mono ?_; rintro e w2 ⟨rfl, hb2, hB2⟩; have HB2 := Lib.hid hB2; clear hb2 hB2)
              | (go_at_call 14; refine (add32 _ _ _).mono ?_; rintro e w' ⟨rfl, rfl⟩)
              | (go_at_call 13; refine (HMM.out _ HB2.out).mono ?_; rintro e w3 ⟨rfl, hb3, hB3⟩; have HB3 := Lib.hid hB3; clear hb3 hB3))
            go_round
            case rel => exact ⟨k + 1, by go_num, by have := HK.out.1; omega, by rw [HGO.out, HK.out.2, hmk]; simp, HB3.out⟩
            case measure => have := HK.out.1; simp only [intOf]; omega
        · have hd : decide ((k : Int) < most) = false := decide_eq_false hlt
          have hk0 : (most).toNat - k = 0 := by omega
          have HK := Lib.hid hk0
          clear hlt hk0
          go_wp2_with (first
            | (go_at_call 62; refine (HL.out _ HBE.out).mono ?_; rintro e w2 ⟨rfl, hb2, hB2⟩; have HB2 := Lib.hid hB2; clear hb2 hB2))
          go_ret
          exact ⟨ret_int (by rw [HGO.out, HK.out]; rfl), HB2.out⟩
end Go.Proofs.Ythnmpndofkgppaa
