/- Contracts of the reference's board: slot, Get, Set, Data, Cost; sakialaw12.model: an access that a struct tells of. -/
import Derived.Test.YtmjpdojecdnkjaaGreatRefB
import Derived.Test.YtmjpdojecdnkjaaGreatRef18
import Derived.Test.YtmjpdojecdnkjaaGreatBoardD
import Derived.Test.YtmjpdojecdnkjaaGreatChainP
import Derived.Test.YtmjpdojecdnkjaaGreatCost
namespace Go.Proofs.YtmjpdojecdnkjaaGreat
open Go.RowKit
set_option linter.unusedVariables false
set_option linter.unusedSimpArgs false
set_option maxHeartbeats 20000000

section
variable (w : World) (γ : Nat → Nat) (id q : Nat) (c0 : Cf) (b : BS)
/-- which cell a slot's data are -/
def BS.rslot (b : BS) (s : Int) : Int := if 0 ≤ s ∧ s < b.data.length then b.l.slots + s else -1
theorem cells_len {M : Int} {b : BS} (hf : b.Fit M) {c0 : Cf} {rc : List RC} (hR : RefRel c0 b rc) : (rc.length : Int) ≤ 300 ∧ (rc.length : Int) - c0.cap = b.l.slots ∧ (b.data.length : Int) = c0.cap := by
  have h1 := hR.len
  have h2 := hR.cap
  have h3 := hf.ok.all
  have h4 := hf.ok.nd
  have h5 := (mkLay_bd (c := b.l.c) hf.un.2 hf.cap).slots
  rw [← hf.lay] at h5
  have h6 := hf.cap.bd
  omega
theorem rslot12 (h : RefAt w γ id q c0 b) {M : Int} (hf : b.Fit M) (s : Int) : Calls Tryz.prog 130 #[.pointer (some ⟨q, 0, none⟩), .int .i64 s] w fun e w' => e = .returned (.int .i64 (b.rslot s)) ∧ ∃ n, w' = w.drewN n := by
  obtain ⟨rc, cv, hv, lv, hF, hR⟩ := h
  have h2 : w.cell? ⟨q, 2, none⟩ = some (.int .i64 c0.cap) := hF.brd.cell 2
  have h6 : w.cell? ⟨q, 6, none⟩ = some cv := hF.brd.cell 6
  obtain ⟨A1, c1, rfl, _⟩ := own_form hF.cel.1
  obtain ⟨hl, hs, hd⟩ := cells_len hf hR
  have hcap : Cap2 c0.cap := by rw [hR.cap]; exact hf.cap
  have hcb := hcap.bd
  unfold BS.rslot
  rw [← hs, hd]
  generalize rc.length = ln at *
  have hw1 : wrap64 ((ln : Int) - c0.cap) = (ln : Int) - c0.cap := wrap64_id (by omega)
  have hy1 : IntKind.i64.wrap ((ln : Int) - c0.cap) = (ln : Int) - c0.cap := by simp [IntKind.wrap, IntKind.bits, IntKind.signed]; omega
  clear hF hR hf hs hd hcap
  by_cases h0 : s < 0
  · rw [if_neg (by omega)]
    go_enter Tryz.func130, Tryz.ntmps130
    go_wp2_with fail
    go_ret
    exact ⟨rfl, 0, rfl⟩
  · by_cases h1 : s < c0.cap
    · rw [if_pos (by omega)]
      have hw2 : wrap64 ((ln : Int) - c0.cap + s) = (ln : Int) - c0.cap + s := wrap64_id (by omega)
      have hy2 : IntKind.i64.wrap ((ln : Int) - c0.cap + s) = (ln : Int) - c0.cap + s := by simp [IntKind.wrap, IntKind.bits, IntKind.signed]; omega
      go_enter Tryz.func130, Tryz.ntmps130
      go_wp2_with fail
      go_quiet (fail)
      go_wp2_with fail
      go_ret
      exact ⟨rfl, _, rfl⟩
    · rw [if_neg (by omega)]
      have h1d : decide (c0.cap ≤ s) = true := decide_eq_true (by omega)
      go_enter Tryz.func130, Tryz.ntmps130
      go_wp2_with fail
      go_ret
      exact ⟨rfl, 0, rfl⟩
theorem hasOf_slot {M : Int} {b : BS} (hf : b.Fit M) {s : Int} (hs : 0 ≤ s ∧ s < b.data.length) : ∃ n : Nat, b.l.slots + s = n ∧ b.l.slot s = n ∧ n < (hasOf b).length ∧ (hasOf b).getD n 0 = u64I (b.datum s) ∧ ∀ v, hasOf { b with data := b.data.set s.toNat v } = (hasOf b).set n (u64I v) := by
  have h1 := slot_at hf hs
  have hnc := hf.ok.nc
  refine ⟨(b.l.slots + s).toNat, by omega, by omega, ?_, ?_, ?_⟩
  · unfold hasOf; rw [List.length_append, List.length_map]; omega
  · unfold hasOf BS.datum
    rw [List.getD_eq_getElem?_getD, List.getElem?_append_right (by omega), show (b.l.slots + s).toNat - b.cells.length = s.toNat by omega, List.getElem?_map, List.getD_eq_getElem?_getD, List.getElem?_eq_getElem (show s.toNat < b.data.length by omega)]
    rfl
  · intro v
    unfold hasOf
    show b.cells ++ (b.data.set s.toNat v).map u64I = _
    rw [List.set_append_right _ _ (by omega), show (b.l.slots + s).toNat - b.cells.length = s.toNat by omega, List.map_set]
theorem bd_int {x : Int} (h : -9223372036854775808 ≤ x ∧ x ≤ 9223372036854775807) : wrap64 (u64I x) = x := by unfold u64I wrap64; omega
theorem RefRel.same2 {rc : List RC} {b b' : BS} {c0 : Cf} (h : RefRel c0 b rc) (hl : b'.l = b.l) : RefRel c0 b' rc := h.same hl
theorem rLookG (h : RefAt w γ id q c0 b) (hlen : b.log.length ≤ 1000000) (t kind : Int) (k : Nat) (hkh : k < (hasOf b).length) :
    Calls Tryz.prog 128 #[.pointer (some ⟨q, 0, none⟩), .int .i64 t, .int .i64 kind, .int .i64 k] w (RMutEnd w γ id q c0 (.int .u64 ((hasOf b).getD k 0)) { b with log := b.log ++ [⟨t, kind, k, (hasOf b).getD k 0, (hasOf b).getD k 0⟩] }) := by
  have HD := Lib.hid (rDo w γ id q c0 b h hlen t kind k hkh ((hasOf b).getD k 0) _ rfl { b with log := b.log ++ [⟨t, kind, k, (hasOf b).getD k 0, (hasOf b).getD k 0⟩] } rfl (by
    show hasOf b = _
    apply List.ext_getElem?
    intro j
    rw [List.getElem?_set]
    by_cases hj : k = j
    · subst hj
      rw [if_pos rfl, if_pos hkh, List.getD_eq_getElem?_getD, List.getElem?_eq_getElem hkh]; rfl
    · rw [if_neg hj]) rfl)
  obtain ⟨rc, cv, hv, lv, hF, hR⟩ := h
  have hq7 : w.cell? ⟨q, 7, none⟩ = some hv := hF.brd.cell 7
  obtain ⟨g, cap, rfl, hgl, hgc, hgf⟩ := row_at hF.has.1 hkh
  have hkl : (k : Int) < (hasOf b).length := by omega
  clear hF hR hlen hkh
  generalize (hasOf b).getD k 0 = x at *
  go_enter Tryz.func128, Tryz.ntmps128
  go_wp2_with (go_at_call 129; refine HD.out.mono ?_; rintro e w1 ⟨rfl, γ', hB, hfr⟩; have HB := Lib.hid (And.intro hB hfr); clear hB hfr)
  go_ret
  exact ⟨rfl, γ', HB.out.1, HB.out.2⟩
theorem rGet (h : RefAt w γ id q c0 b) {M : Int} (hf : b.Fit M) (hlen : b.log.length ≤ 1000000) (t s : Int) :
    Calls Tryz.prog 67 #[.pointer (some ⟨q, 0, none⟩), .int .i64 t, .int .i64 s] w (RMutEnd w γ id q c0 (.int .i64 (b.get t s).1) (b.get t s).2) := by
  have HS := Lib.hid (fun W (hW : Below w.heap.size w W) => rslot12 W γ id q c0 b (h.below hW) hf s)
  have H := Lib.hid h
  unfold BS.rslot at HS
  unfold BS.get
  by_cases hs : 0 ≤ s ∧ s < b.data.length
  · rw [if_pos hs]
    rw [if_pos hs] at HS
    obtain ⟨n, e1, e2, hn, hg, _⟩ := hasOf_slot hf hs
    have hdat : -9223372036854775808 ≤ b.datum s ∧ b.datum s ≤ 9223372036854775807 := hf.ok.dat _ (by
      unfold BS.datum; rw [List.getD_eq_getElem?_getD, List.getElem?_eq_getElem (show s.toNat < b.data.length by omega)]; exact List.getElem_mem _)
    have hw : wrap64 (u64I (b.datum s)) = b.datum s := bd_int hdat
    have hy : IntKind.i64.wrap (u64I (b.datum s)) = b.datum s := by rw [← hw]; simp [IntKind.wrap, IntKind.bits, IntKind.signed, wrap64, u64I]; omega
    rw [e1] at HS
    have HLK := Lib.hid (fun W (hW : Below w.heap.size w W) => rLookG W γ id q c0 b (h.below hW) hlen t 6 n hn)
    rw [hg] at HLK
    show Calls _ _ _ _ (RMutEnd w γ id q c0 (.int .i64 (b.datum s)) (b.note t 6 (b.l.slot s) (u64I (b.datum s)) (u64I (b.datum s))))
    unfold BS.note
    rw [e2]
    clear h hf hlen hs e1 e2 hn hg hdat
    generalize b.datum s = d at *
    have hi0 : (0 : Int) ≤ n := by omega
    go_enter Tryz.func67, Tryz.ntmps67
    go_wp2_with (first
      | (go_at_call 130; refine (HS.out _ (by repeat (with_reducible first | exact Below.refl _ _ | refine Below.drew ?_ | refine below_drewN ?_ _ | refine Below.alloc ?_ (by simp) _))).mono ?_; rintro e w1 ⟨rfl, n1, rfl⟩)
      | (go_at_call 128; refine (HLK.out _ (by repeat (with_reducible first | exact Below.refl _ _ | refine Below.drew ?_ | refine below_drewN ?_ _ | refine Below.alloc ?_ (by simp) _))).mono ?_; rintro e w2 ⟨rfl, γ', hB, hfr⟩; have HB := Lib.hid (And.intro hB ((Fr.of_below (w := w) (by repeat (with_reducible first | exact Below.refl _ _ | refine Below.drew ?_ | refine below_drewN ?_ _ | refine Below.alloc ?_ (by simp) _)) _ _).trans hfr)); clear hB hfr))
    go_ret
    exact ⟨rfl, γ', HB.out.1, HB.out.2⟩
  · rw [if_neg hs]
    rw [if_neg hs] at HS
    clear h hf hlen hs
    go_enter Tryz.func67, Tryz.ntmps67
    go_wp2_with (go_at_call 130; refine (HS.out _ (by repeat (with_reducible first | exact Below.refl _ _ | refine Below.drew ?_ | refine below_drewN ?_ _ | refine Below.alloc ?_ (by simp) _))).mono ?_; rintro e w1 ⟨rfl, n1, rfl⟩)
    go_ret
    exact ⟨rfl, γ, H.out.below (by repeat (with_reducible first | exact Below.refl _ _ | refine Below.drew ?_ | refine below_drewN ?_ _ | refine Below.alloc ?_ (by simp) _)), Fr.of_below (by repeat (with_reducible first | exact Below.refl _ _ | refine Below.drew ?_ | refine below_drewN ?_ _ | refine Below.alloc ?_ (by simp) _)) _ _⟩
theorem rSet (h : RefAt w γ id q c0 b) {M : Int} (hf : b.Fit M) (hlen : b.log.length ≤ 1000000) (t s v : Int) :
    Calls Tryz.prog 68 #[.pointer (some ⟨q, 0, none⟩), .int .i64 t, .int .i64 s, .int .i64 v] w (RMutEnd w γ id q c0 (.tuple #[]) (b.put t s v)) := by
  have HS := Lib.hid (fun W (hW : Below w.heap.size w W) => rslot12 W γ id q c0 b (h.below hW) hf s)
  have H := Lib.hid h
  unfold BS.rslot at HS
  unfold BS.put
  by_cases hs : 0 ≤ s ∧ s < b.data.length
  · rw [if_pos hs]
    rw [if_pos hs] at HS
    obtain ⟨n, e1, e2, hn, hg, hset⟩ := hasOf_slot hf hs
    rw [e1] at HS
    have HL := Lib.hid (fun W (hW : Below w.heap.size w W) => rDo W γ id q c0 b (h.below hW) hlen t 7 n hn (u64I v) _ hg { b with data := b.data.set s.toNat v, log := b.log ++ [⟨t, 7, b.l.slot s, u64I (b.datum s), u64I v⟩] } rfl (hset v) (by show b.log ++ [_] = b.log ++ [_]; rw [e2]))
    have hy1 : v % 18446744073709551616 = u64I v := rfl
    have hy2 : IntKind.u64.wrap v = u64I v := by simp [IntKind.wrap, IntKind.bits, IntKind.signed, u64I]
    clear h hf hlen hs e1 e2 hn hg hset
    have hi0 : (0 : Int) ≤ n := by omega
    go_enter Tryz.func68, Tryz.ntmps68
    go_wp2_with (first
      | (go_at_call 130; refine (HS.out _ (by repeat (with_reducible first | exact Below.refl _ _ | refine Below.drew ?_ | refine below_drewN ?_ _ | refine Below.alloc ?_ (by simp) _))).mono ?_; rintro e w1 ⟨rfl, n1, rfl⟩)
      | (go_at_call 129; refine (HL.out _ (by repeat (with_reducible first | exact Below.refl _ _ | refine Below.drew ?_ | refine below_drewN ?_ _ | refine Below.alloc ?_ (by simp) _))).mono ?_; rintro e w2 ⟨rfl, γ', hB, hfr⟩; have HB := Lib.hid (And.intro hB ((Fr.of_below (w := w) (by repeat (with_reducible first | exact Below.refl _ _ | refine Below.drew ?_ | refine below_drewN ?_ _ | refine Below.alloc ?_ (by simp) _)) _ _).trans hfr)); clear hB hfr))
    first | go_end0 | refine bodyPost_ret (results_none rfl _ _ _) rfl ?_
    exact ⟨rfl, γ', HB.out.1, HB.out.2⟩
  · rw [if_neg hs]
    rw [if_neg hs] at HS
    clear h hf hlen hs
    go_enter Tryz.func68, Tryz.ntmps68
    go_wp2_with (go_at_call 130; refine (HS.out _ (by repeat (with_reducible first | exact Below.refl _ _ | refine Below.drew ?_ | refine below_drewN ?_ _ | refine Below.alloc ?_ (by simp) _))).mono ?_; rintro e w1 ⟨rfl, n1, rfl⟩)
    first | go_end0 | refine bodyPost_ret (results_none rfl _ _ _) rfl ?_
    exact ⟨rfl, γ, H.out.below (by repeat (with_reducible first | exact Below.refl _ _ | refine Below.drew ?_ | refine below_drewN ?_ _ | refine Below.alloc ?_ (by simp) _)), Fr.of_below (by repeat (with_reducible first | exact Below.refl _ _ | refine Below.drew ?_ | refine below_drewN ?_ _ | refine Below.alloc ?_ (by simp) _)) _ _⟩
end
theorem rCost (log : List Acc) (hl : log.length ≤ 1000000) (A : Option Addr) (c : Nat) (w : World) (ha : Reads w w.heap.size 5 A log.length (accVs log)) (t : Int) :
    Calls Tryz.prog 17 #[.slice A log.length c, .int .i64 t] w fun e w' => e = .returned (.tuple #[.int .i64 (costN log t log.length).1, .int .i64 (costN log t log.length).2]) ∧ Below w.heap.size w w' := by
  have HRD := Lib.hid ha
  clear ha
  go_enter Tryz.func17, Tryz.ntmps17
  go_wp2_with fail
  go_loopw [8, 6, 7] (fun i n m wr => ∃ (k : Nat), i = .int .i64 k ∧ k ≤ log.length ∧ n = .int .i64 (costN log t k).1 ∧ m = .int .i64 (costN log t k).2 ∧ Below w.heap.size w wr) (fun i _ _ _ => log.length - (intOf i).toNat)
  case atStart => exact ⟨0, rfl, by omega, rfl, rfl, Below.refl _ _⟩
  case round =>
    obtain ⟨k, rfl, hk, rfl, rfl, hbe⟩ := hrel
    have HBE := Lib.hid hbe
    by_cases hlt : k < log.length
    · have hlti : (k : Int) < log.length := by omega
      have hg := List.getElem?_eq_getElem hlt
      generalize log[k] = a at hg
      obtain ⟨g, o, rfl, c0, c1, c2, c3, c4⟩ := acc_cells (HRD.out.below hbe) hg
      have hnx := costN_next hg t
      have hle := costN_le log t k
      obtain ⟨th, kd, ce, od, nw⟩ := a
      dsimp only at *
      generalize costN log t k = s at *
      obtain ⟨n, m⟩ := s
      dsimp only at hle hnx
      have hw1 : wrap64 ((n : Int) + 1) = (n : Int) + 1 := wrap64_id (by omega)
      have hw2 : wrap64 ((m : Int) + 1) = (m : Int) + 1 := wrap64_id (by omega)
      have HNX := Lib.hid hnx
      clear hnx hg hbe
      by_cases hth : th = t
      · subst hth
        have htb : (th != th) = false := by simp
        by_cases h1 : kd = 1
        · subst h1
          go_wp2_with fail
          go_round
          case rel => exact ⟨k + 1, by go_num, by omega, by rw [HNX.out, if_pos rfl]; show Value.int .i64 ((n : Int) + 1) = Value.int .i64 ((n + 1 : Nat) : Int); rfl, by rw [HNX.out, if_pos rfl]; rfl, HBE.out⟩
          case measure => simp only [intOf]; omega
        · have b1 : (kd == 1) = false := by simp [h1]
          by_cases h5 : kd = 5
          · subst h5
            go_wp2_with fail
            go_round
            case rel => exact ⟨k + 1, by go_num, by omega, by rw [HNX.out, if_pos rfl]; show Value.int .i64 ((n : Int) + 1) = Value.int .i64 ((n + 1 : Nat) : Int); rfl, by rw [HNX.out, if_pos rfl]; rfl, HBE.out⟩
            case measure => simp only [intOf]; omega
          · have b5 : (kd == 5) = false := by simp [h5]
            by_cases h6 : kd = 6
            · subst h6
              go_wp2_with fail
              go_round
              case rel => exact ⟨k + 1, by go_num, by omega, by rw [HNX.out, if_pos rfl]; show Value.int .i64 ((n : Int) + 1) = Value.int .i64 ((n + 1 : Nat) : Int); rfl, by rw [HNX.out, if_pos rfl]; rfl, HBE.out⟩
              case measure => simp only [intOf]; omega
            · have b6 : (kd == 6) = false := by simp [h6]
              have hlk : lookK kd = false := by unfold lookK; simp [h1, h5, h6]
              go_wp2_with fail
              go_round
              case rel => exact ⟨k + 1, by go_num, by omega, by rw [HNX.out, if_pos rfl, hlk]; rfl, by rw [HNX.out, if_pos rfl, hlk]; show Value.int .i64 ((m : Int) + 1) = Value.int .i64 ((m + 1 : Nat) : Int); rfl, HBE.out⟩
              case measure => simp only [intOf]; omega
      · have htb : (th != t) = true := by simp [hth]
        go_wp2_with fail
        go_round
        case rel => exact ⟨k + 1, by go_num, by omega, by rw [HNX.out, if_neg hth], by rw [HNX.out, if_neg hth], HBE.out⟩
        case measure => simp only [intOf]; omega
    · obtain rfl : k = log.length := by omega
      go_wp2_with fail
      go_ret2
      exact ⟨rfl, HBE.out⟩
theorem model12 (w : World) (γ : Nat → Nat) (id q : Nat) (c0 : Cf) (b : BS) (h : RefAt w γ id q c0 b) {M : Int} (hf : b.Fit M) (hlen : b.log.length ≤ 1000000) (hwd : c0.width = 32 ∨ c0.width = 64) (hM : M = MW c0.width) (t k c n o v : Int) (ho : 0 ≤ o ∧ o ≤ 18446744073709551615) (hv : 0 ≤ v ∧ v ≤ 18446744073709551615) :
    Calls Tryz.prog 16 #[.pointer (some ⟨q, 0, none⟩), .agg #[.int .i64 t, .int .i64 k, .int .i64 c, .int .i64 n, .int .u64 o, .int .u64 v]] w
      (RMutEnd w γ id q c0 (.tuple #[.int .u64 (stepP M b t k c n o v).1.1, .bool (stepP M b t k c n o v).1.2]) (stepP M b t k c n o v).2) := by
  have H := Lib.hid h
  have hq1 : w.cell? ⟨q, 1, none⟩ = some (.int .i64 c0.width) := by obtain ⟨rc, cv, hv, lv, hF, hR⟩ := h; exact hF.brd.cell 1
  have hql : q < w.heap.size := by obtain ⟨rc, cv, hv, lv, hF, hR⟩ := h; exact hF.brd.lt
  have HCV := Lib.hid (fun W => rcut c0.width v hwd hv W)
  have HCO := Lib.hid (fun W => rcut c0.width o hwd ho W)
  rw [← hM] at HCV HCO
  have HCC := Lib.hid (show ∀ z, z = v ∨ z = o → ∀ W, Calls Tryz.prog 62 #[.int .i64 c0.width, .int .u64 z] W fun e w' => e = .returned (.int .u64 (cutM M z)) ∧ W = w' by
    intro z hz
    rcases hz with rfl | rfl
    · exact HCV.out
    · exact HCO.out)
  unfold stepP
  by_cases h1 : k = 1
  · subst h1
    rw [if_pos rfl]
    have HQ := Lib.hid (fun W (hW : Below w.heap.size w W) => rLoad W γ id q c0 b (h.below hW) hf.ok hlen t c)
    generalize b.load t c = r at *
    obtain ⟨x, b2⟩ := r
    dsimp only at *
    clear h hf hlen hwd hM ho hv
    go_enter Tryz.func16, Tryz.ntmps16
    go_wp2_with (go_at_call 60; refine (HQ.out _ (by repeat (with_reducible first | exact Below.refl _ _ | refine Below.drew ?_ | refine below_drewN ?_ _ | refine Below.alloc ?_ (by simp) _))).mono ?_; rintro e w2 ⟨rfl, γ', hB2, hfr⟩; have HB := Lib.hid (And.intro hB2 ((Fr.of_below (w := w) (by repeat (with_reducible first | exact Below.refl _ _ | refine Below.drew ?_ | refine below_drewN ?_ _ | refine Below.alloc ?_ (by simp) _)) _ _).trans hfr)); clear hB2 hfr)
    refine bodyPost_ret (v := .tuple #[.int .u64 x, .bool false]) ?_ rfl ?_
    · simp only [results, Tryz.results16]
      go_simp
    · exact ⟨rfl, γ', HB.out.1, HB.out.2⟩
  · rw [if_neg h1]
    have n1 : (k == 1) = false := by simp [h1]
    by_cases h2 : k = 2
    · subst h2
      rw [if_pos rfl]
      have HQ := Lib.hid (fun W (hW : Below w.heap.size w W) => rStore W γ id q c0 b (h.below hW) hf.ok hlen t c (cutM M v))
      clear h hf hlen hwd hM ho hv
      go_enter Tryz.func16, Tryz.ntmps16
      go_wp2_with fail
      go_region_with (first | (go_at_call 62; refine (HCC.out _ (by simp) _).mono ?_; rintro e w' ⟨rfl, rfl⟩) | (go_at_call 61; refine (HQ.out _ (by repeat (with_reducible first | exact Below.refl _ _ | refine Below.drew ?_ | refine below_drewN ?_ _ | refine Below.alloc ?_ (by simp) _))).mono ?_; rintro e w2 ⟨rfl, γ', hB2, hfr⟩; have HB := Lib.hid (And.intro hB2 ((Fr.of_below (w := w) (by repeat (with_reducible first | exact Below.refl _ _ | refine Below.drew ?_ | refine below_drewN ?_ _ | refine Below.alloc ?_ (by simp) _)) _ _).trans hfr)); clear hB2 hfr))
      all_goals go_wp2_with fail
      all_goals refine bodyPost_ret (v := .tuple #[.int .u64 0, .bool false]) ?_ rfl ?_
      all_goals first
        | (simp only [results, Tryz.results16]; go_simp; done)
        | exact ⟨rfl, γ', HB.out.1, HB.out.2⟩
    · rw [if_neg h2]
      have n2 : (k == 2) = false := by simp [h2]
      by_cases h3 : k = 3
      · subst h3
        rw [if_pos rfl]
        have HQ := Lib.hid (fun W (hW : Below w.heap.size w W) => rAdd W γ id q c0 b (h.below hW) hf.ok hlen hwd hM t c n)
        generalize b.add M t c n = r at *
        obtain ⟨x, b2⟩ := r
        dsimp only at *
        clear h hf hlen hwd hM ho hv
        go_enter Tryz.func16, Tryz.ntmps16
        go_wp2_with (go_at_call 63; refine (HQ.out _ (by repeat (with_reducible first | exact Below.refl _ _ | refine Below.drew ?_ | refine below_drewN ?_ _ | refine Below.alloc ?_ (by simp) _))).mono ?_; rintro e w2 ⟨rfl, γ', hB2, hfr⟩; have HB := Lib.hid (And.intro hB2 ((Fr.of_below (w := w) (by repeat (with_reducible first | exact Below.refl _ _ | refine Below.drew ?_ | refine below_drewN ?_ _ | refine Below.alloc ?_ (by simp) _)) _ _).trans hfr)); clear hB2 hfr)
        refine bodyPost_ret (v := .tuple #[.int .u64 x, .bool false]) ?_ rfl ?_
        · simp only [results, Tryz.results16]
          go_simp
        · exact ⟨rfl, γ', HB.out.1, HB.out.2⟩
      · rw [if_neg h3]
        have n3 : (k == 3) = false := by simp [h3]
        by_cases h4 : k = 4
        · subst h4
          rw [if_pos rfl]
          have HQ := Lib.hid (fun W (hW : Below w.heap.size w W) => rSwap W (Lab1 w γ id) id q c0 b (h.locals hW) hf.ok hlen t c (cutM M o) (cutM M v))
          generalize b.swap t c _ _ = r at *
          obtain ⟨x, b2⟩ := r
          dsimp only at *
          clear h hf hlen hwd hM ho hv
          go_enter Tryz.func16, Tryz.ntmps16
          go_wp2_with fail
          go_region_held3 (fun w' => w'.cell? ⟨w.heap.size, 0, none⟩ = some (.int .i64 t) ∧ w'.cell? ⟨w.heap.size, 2, none⟩ = some (.int .i64 c) ∧ w'.cell? ⟨w.heap.size, 4, none⟩ = some (.int .u64 o) ∧ w'.cell? ⟨w.heap.size, 5, none⟩ = some (.int .u64 v)) (go_keep) (first | (go_at_call 62; refine (HCC.out _ (by simp) _).mono ?_; rintro e w' ⟨rfl, rfl⟩) | (go_at_call 64; refine (HQ.out _ (by repeat (with_reducible first | exact Below.refl _ _ | refine Below.drew ?_ | refine below_drewN ?_ _ | refine Below.alloc ?_ (by simp) _))).mono ?_; rintro e w2 ⟨rfl, γ', hB2, hfr⟩; have k1 := hfr.block_ (Blk.new w 45 _) (Lab1.new (Nat.le_refl _)); obtain ⟨a0, a1, a2, a3, a4, a5⟩ := blk_cells6 k1; have HB := Lib.hid (And.intro hB2 (Fr.locals (by repeat (with_reducible first | exact Below.refl _ _ | refine Below.drew ?_ | refine below_drewN ?_ _ | refine Below.alloc ?_ (by simp) _)) hfr)); clear hB2 hfr k1))
          all_goals go_wp2_with fail
          all_goals refine bodyPost_ret (v := .tuple #[.int .u64 0, .bool x]) ?_ rfl ?_
          all_goals first
            | (simp only [results, Tryz.results16]; go_simp; done)
            | exact ⟨rfl, γ', HB.out.1, HB.out.2⟩
        · rw [if_neg h4]
          have n4 : (k == 4) = false := by simp [h4]
          by_cases h6 : k = 6
          · subst h6
            rw [if_pos rfl]
            have HQ := Lib.hid (fun W (hW : Below w.heap.size w W) => rRead W γ id q c0 b (h.below hW) hf.ok hlen t c)
            generalize b.read t c = r at *
            obtain ⟨x, b2⟩ := r
            dsimp only at *
            clear h hf hlen hwd hM ho hv
            go_enter Tryz.func16, Tryz.ntmps16
            go_wp2_with (go_at_call 65; refine (HQ.out _ (by repeat (with_reducible first | exact Below.refl _ _ | refine Below.drew ?_ | refine below_drewN ?_ _ | refine Below.alloc ?_ (by simp) _))).mono ?_; rintro e w2 ⟨rfl, γ', hB2, hfr⟩; have HB := Lib.hid (And.intro hB2 ((Fr.of_below (w := w) (by repeat (with_reducible first | exact Below.refl _ _ | refine Below.drew ?_ | refine below_drewN ?_ _ | refine Below.alloc ?_ (by simp) _)) _ _).trans hfr)); clear hB2 hfr)
            refine bodyPost_ret (v := .tuple #[.int .u64 x, .bool false]) ?_ rfl ?_
            · simp only [results, Tryz.results16]
              go_simp
            · exact ⟨rfl, γ', HB.out.1, HB.out.2⟩
          · rw [if_neg h6]
            have n6 : (k == 6) = false := by simp [h6]
            by_cases h7 : k = 7
            · subst h7
              rw [if_pos rfl]
              have HQ := Lib.hid (fun W (hW : Below w.heap.size w W) => rWrite W γ id q c0 b (h.below hW) hf.ok hlen t c (cutM M v))
              clear h hf hlen hwd hM ho hv
              go_enter Tryz.func16, Tryz.ntmps16
              go_wp2_with fail
              go_region_with (first | (go_at_call 62; refine (HCC.out _ (by simp) _).mono ?_; rintro e w' ⟨rfl, rfl⟩) | (go_at_call 66; refine (HQ.out _ (by repeat (with_reducible first | exact Below.refl _ _ | refine Below.drew ?_ | refine below_drewN ?_ _ | refine Below.alloc ?_ (by simp) _))).mono ?_; rintro e w2 ⟨rfl, γ', hB2, hfr⟩; have HB := Lib.hid (And.intro hB2 ((Fr.of_below (w := w) (by repeat (with_reducible first | exact Below.refl _ _ | refine Below.drew ?_ | refine below_drewN ?_ _ | refine Below.alloc ?_ (by simp) _)) _ _).trans hfr)); clear hB2 hfr))
              all_goals go_wp2_with fail
              all_goals refine bodyPost_ret (v := .tuple #[.int .u64 0, .bool false]) ?_ rfl ?_
              all_goals first
                | (simp only [results, Tryz.results16]; go_simp; done)
                | exact ⟨rfl, γ', HB.out.1, HB.out.2⟩
            · rw [if_neg h7]
              have n7 : (k == 7) = false := by simp [h7]
              by_cases h8 : k = 8
              · subst h8
                rw [if_pos rfl]
                have HQ := Lib.hid (fun W (hW : Below w.heap.size w W) => rGet W γ id q c0 b (h.below hW) hf hlen t c)
                generalize b.get t c = r at *
                obtain ⟨x, b2⟩ := r
                dsimp only at *
                have hx3 : IntKind.u64.wrap x = u64I x := by simp [IntKind.wrap, IntKind.bits, IntKind.signed, u64I]
                have hx4 : x % 18446744073709551616 = u64I x := rfl
                clear h hf hlen hwd hM ho hv
                go_enter Tryz.func16, Tryz.ntmps16
                go_wp2_with (go_at_call 67; refine (HQ.out _ (by repeat (with_reducible first | exact Below.refl _ _ | refine Below.drew ?_ | refine below_drewN ?_ _ | refine Below.alloc ?_ (by simp) _))).mono ?_; rintro e w2 ⟨rfl, γ', hB2, hfr⟩; have HB := Lib.hid (And.intro hB2 ((Fr.of_below (w := w) (by repeat (with_reducible first | exact Below.refl _ _ | refine Below.drew ?_ | refine below_drewN ?_ _ | refine Below.alloc ?_ (by simp) _)) _ _).trans hfr)); clear hB2 hfr)
                refine bodyPost_ret (v := .tuple #[.int .u64 (u64I x), .bool false]) ?_ rfl ?_
                · simp only [results, Tryz.results16]
                  go_simp
                · exact ⟨rfl, γ', HB.out.1, HB.out.2⟩
              · rw [if_neg h8]
                have n8 : (k == 8) = false := by simp [h8]
                by_cases h9 : k = 9
                · subst h9
                  rw [if_pos rfl]
                  have HQ := Lib.hid (fun W (hW : Below w.heap.size w W) => rSet W γ id q c0 b (h.below hW) hf hlen t c n)
                  clear h hf hlen hwd hM ho hv
                  go_enter Tryz.func16, Tryz.ntmps16
                  go_wp2_with (go_at_call 68; refine (HQ.out _ (by repeat (with_reducible first | exact Below.refl _ _ | refine Below.drew ?_ | refine below_drewN ?_ _ | refine Below.alloc ?_ (by simp) _))).mono ?_; rintro e w2 ⟨rfl, γ', hB2, hfr⟩; have HB := Lib.hid (And.intro hB2 ((Fr.of_below (w := w) (by repeat (with_reducible first | exact Below.refl _ _ | refine Below.drew ?_ | refine below_drewN ?_ _ | refine Below.alloc ?_ (by simp) _)) _ _).trans hfr)); clear hB2 hfr)
                  refine bodyPost_ret (v := .tuple #[.int .u64 0, .bool false]) ?_ rfl ?_
                  · simp only [results, Tryz.results16]
                    go_simp
                  · exact ⟨rfl, γ', HB.out.1, HB.out.2⟩
                · rw [if_neg h9]
                  have n9 : (k == 9) = false := by simp [h9]
                  clear h hf hlen hwd hM ho hv
                  go_enter Tryz.func16, Tryz.ntmps16
                  go_wp2_with fail
                  refine bodyPost_ret (v := .tuple #[.int .u64 0, .bool false]) ?_ rfl ?_
                  · simp only [results, Tryz.results16]
                    go_simp
                  · exact ⟨rfl, γ, H.out.below (by repeat (with_reducible first | exact Below.refl _ _ | refine Below.drew ?_ | refine below_drewN ?_ _ | refine Below.alloc ?_ (by simp) _)), Fr.of_below (by repeat (with_reducible first | exact Below.refl _ _ | refine Below.drew ?_ | refine below_drewN ?_ _ | refine Below.alloc ?_ (by simp) _)) _ _⟩
end Go.Proofs.YtmjpdojecdnkjaaGreat
