/- Contracts of the reference's board: Is, Do, Look, and the accesses. -/
import Derived.Test.YtmjpdojecdnkjaaGreatRefM
import Derived.Test.YtmjpdojecdnkjaaGreatBoard
namespace Go.Proofs.YtmjpdojecdnkjaaGreat
open Go.RowKit
set_option linter.unusedVariables false
set_option linter.unusedSimpArgs false
set_option maxHeartbeats 2000000

section
variable (w : World) (γ : Nat → Nat) (id q : Nat) (c0 : Cf) (b : BS)
theorem rIs (h : RefAt w γ id q c0 b) (k kind : Int) (hkk : 1 ≤ kind) :
    Calls Tryz.prog 127 #[.pointer (some ⟨q, 0, none⟩), .int .i64 k, .int .i64 kind] w fun e w' => e = .returned (.bool (decide (b.l.kind k = kind))) ∧ w = w' := by
  obtain ⟨rc, cv, hv, lv, hF, hR⟩ := h
  have hq : w.cell? ⟨q, 6, none⟩ = some cv := hF.brd.cell 6
  have hkz : ∀ k : Int, ¬ (0 ≤ k ∧ k < rc.length) → b.l.kind k = 0 := fun k hk => by unfold Lay.kind; rw [if_pos (by have := hR.len; omega)]
  by_cases h0 : 0 ≤ k
  · obtain ⟨n, rfl⟩ : ∃ n : Nat, k = n := ⟨k.toNat, by omega⟩
    by_cases h1 : n < rc.length
    · obtain ⟨g, cap, rfl, hgl, _, hc1, _⟩ := rc_cell hF.cel.1 (List.getElem?_eq_getElem h1) rfl
      rw [hR.kind n _ (List.getElem?_eq_getElem h1)] at hc1
      have hi1 : (n : Int) < rc.length := by omega
      clear hF hR hkz
      generalize b.l.kind (n : Int) = kd at *
      go_enter Tryz.func127, Tryz.ntmps127
      go_wp2_with fail
      go_ret
      exact ⟨ret_bool (by first | rfl | (by_cases h9 : kd = kind <;> simp [h9])), rfl⟩
    · have hd : decide (b.l.kind (n : Int) = kind) = false := decide_eq_false (by rw [hkz n (by omega)]; omega)
      rw [hd]
      obtain ⟨A1, c1, rfl, _⟩ := own_form hF.cel.1
      have hi1 : decide ((n : Int) < rc.length) = false := decide_eq_false (by omega)
      have hi2 : ¬ (n : Int) < rc.length := by omega
      clear hF hR hkz hd
      go_enter Tryz.func127, Tryz.ntmps127
      go_wp2_with fail
      go_ret
      exact ⟨rfl, rfl⟩
  · have hd : decide (b.l.kind k = kind) = false := decide_eq_false (by rw [hkz k (by omega)]; omega)
    rw [hd]
    have hi1 : decide (0 ≤ k) = false := decide_eq_false h0
    clear hF hR hkz hd
    go_enter Tryz.func127, Tryz.ntmps127
    go_wp2_with fail
    go_ret
    exact ⟨rfl, rfl⟩
theorem rDo (h : RefAt w γ id q c0 b) (hlen : b.log.length ≤ 1000000) (t kind : Int) (k : Nat) (hk : k < (hasOf b).length) (v old : Int) (ho : (hasOf b).getD k 0 = old) (b' : BS) (hl' : b'.l = b.l) (hh : hasOf b' = (hasOf b).set k v) (hlg : b'.log = b.log ++ [⟨t, kind, k, old, v⟩]) :
    Calls Tryz.prog 129 #[.pointer (some ⟨q, 0, none⟩), .int .i64 t, .int .i64 kind, .int .i64 k, .int .u64 v] w (RMutEnd w γ id q c0 (.int .u64 old) b') := by
  subst ho
  obtain ⟨rc, cv, hv, lv, hF, hR⟩ := h
  obtain ⟨i0, hinf⟩ := info_parts acc_info
  have HI := Lib.hid hinf
  clear hinf
  have hq7 : w.cell? ⟨q, 7, none⟩ = some hv := hF.brd.cell 7
  have hq8 : w.cell? ⟨q, 8, none⟩ = some lv := hF.brd.cell 8
  have hfr := hF.brd.frozen 8
  obtain ⟨g, cap, rfl, hgl, hgc, hgf⟩ := row_at hF.has.1 hk
  obtain ⟨A1, c1, rfl, hc1⟩ := own_form hF.log.1
  have HK := Lib.hid (show b.log.length + 1 ≤ maxLen ∧ (b.log.length + 1) * 40 ≤ 140737488355328 from ⟨by unfold maxLen; omega, by omega⟩)
  have hkl : (k : Int) < (hasOf b).length := by omega
  have hpl := hF.brd.lt
  generalize hod : (hasOf b).getD k 0 = old at *
  have HF := Lib.hid hF
  have HR := Lib.hid hR
  have HH := Lib.hid (And.intro hl' (And.intro hh hlg))
  have hgne : g ≠ q := by
    intro e
    exact own_blk_ne hF.has.1 hF.brd (by decide) (by rw [← e]; rfl)
  have HKN := Lib.hid hk
  clear hF hR hlen hc1 hl' hh hlg hod hk
  go_enter Tryz.func129, Tryz.ntmps129
  go_wp2_with (first
    | (at_builtin
       refine wpList_append_lies _ rfl (.tmp 23) (.tmp 30) 51 rfl 0 110 i0 _ 5 40 Tryz.underlying51 HI.out.1 HI.out.2.1 HI.out.2.2.1 HI.out.2.2.2 rfl (by decide) (.slice A1 b.log.length c1) b.log.length _ (by rfl) (HF.out.log.1.alloc _) ⟨w.heap.size, 0, none⟩ 1 1 (Acc.vs ⟨t, kind, k, old, v⟩) (by rfl) (by rfl) (news_acc _ _) (one_acc _) (by decide) HK.out.1 HK.out.2 (Nat.zero_le _) _ (by rfl) ?_
       intro g3 cc w2 hown hgrow hat hlt2
       have hnt := HF.out.brd.noted (by decide) (HF.out.log.1.alloc _) hgrow 8
       have hN := HF.out.noted (a := ⟨t, kind, k, old, v⟩) (o := .cells #[.int .i64 t, .int .i64 kind, .int .i64 k, .int .u64 old, .int .u64 v] 110) hgrow hown (fun g' hg' => (Option.some.inj hg') ▸ (hat.imp (fun h => h) (fun h5 => h5.trans (by simp))))
       have h7 : w2.cell? ⟨q, 7, none⟩ = some (.slice (some ⟨g, 0, none⟩) (hasOf b).length cap) := (HF.out.brd.noted (by decide) (HF.out.log.1.alloc _) hgrow 7).1
       have hz2 : q < w2.heap.size := Nat.lt_of_lt_of_le (Nat.lt_of_lt_of_le hpl (by simp)) hgrow.size
       have hrow2 := (HF.out.has.1.alloc (.cells #[.int .i64 t, .int .i64 kind, .int .i64 k, .int .u64 old, .int .u64 v] 110)).kept hgrow (own_own_ne (HF.out.has.1.alloc (.cells #[.int .i64 t, .int .i64 kind, .int .i64 k, .int .u64 old, .int .u64 v] 110)) (HF.out.log.1.alloc (.cells #[.int .i64 t, .int .i64 kind, .int .i64 k, .int .u64 old, .int .u64 v] 110)) (by decide))
       obtain ⟨g5, cap5, he5, hgl5, hgc6, hgf6⟩ := row_at hrow2 HKN.out
       injection he5 with e1 _ _
       injection e1 with e1
       injection e1 with e1 _ _
       subst e1
       have HN := Lib.hid hN
       clear hown hgrow hat hlt2 hN hrow2))
  go_ret
  have hS := HN.out.1.stored (b' := b') k v HH.out.2.1 HH.out.2.2
  exact ⟨rfl, Lab w γ id, ⟨rc, _, _, _, hS.1, HR.out.same HH.out.1⟩, HN.out.2.trans hS.2⟩
theorem rLook (h : RefAt w γ id q c0 b) (hlen : b.log.length ≤ 1000000) (t kind : Int) (k : Nat) (hk : k < b.cells.length) :
    Calls Tryz.prog 128 #[.pointer (some ⟨q, 0, none⟩), .int .i64 t, .int .i64 kind, .int .i64 k] w (RMutEnd w γ id q c0 (.int .u64 (b.at_ k)) (b.look t kind k)) := by
  have hkh : k < (hasOf b).length := by unfold hasOf; rw [List.length_append]; omega
  have hat : (hasOf b).getD k 0 = b.at_ k := by simp [hasOf, BS.at_, List.getD_eq_getElem?_getD, List.getElem?_append_left hk]
  have HD := Lib.hid (rDo w γ id q c0 b h hlen t kind k hkh (b.at_ k) (b.at_ k) hat (b.look t kind k) rfl (by
    show hasOf b = _
    apply List.ext_getElem?
    intro j
    rw [List.getElem?_set]
    by_cases hj : k = j
    · subst hj
      rw [if_pos rfl, if_pos hkh, ← hat, List.getD_eq_getElem?_getD, List.getElem?_eq_getElem hkh]; rfl
    · rw [if_neg hj]) rfl)
  obtain ⟨rc, cv, hv, lv, hF, hR⟩ := h
  have hq7 : w.cell? ⟨q, 7, none⟩ = some hv := hF.brd.cell 7
  obtain ⟨g, cap, rfl, hgl, hgc, hgf⟩ := row_at hF.has.1 hkh
  rw [hat] at hgc
  have hkl : (k : Int) < (hasOf b).length := by omega
  clear hF hR hlen hk hkh hat
  go_enter Tryz.func128, Tryz.ntmps128
  go_wp2_with (go_at_call 129; refine HD.out.mono ?_; rintro e w1 ⟨rfl, γ', hB, hfr⟩; have HB := Lib.hid (And.intro hB hfr); clear hB hfr)
  go_ret
  exact ⟨rfl, γ', HB.out.1, HB.out.2⟩
theorem rLoad (h : RefAt w γ id q c0 b) {M : Int} (hok : b.Ok M) (hlen : b.log.length ≤ 1000000) (t k : Int) :
    Calls Tryz.prog 60 #[.pointer (some ⟨q, 0, none⟩), .int .i64 t, .int .i64 k] w (RMutEnd w γ id q c0 (.int .u64 (b.load t k).1) (b.load t k).2) := by
  have HIS := Lib.hid (rIs w γ id q c0 b h k 1 (by decide))
  have H := Lib.hid h
  unfold BS.load
  by_cases hk : b.l.kind k = 1
  · obtain ⟨n, rfl, hn, hin⟩ := hok.cell (.inl hk)
    have HL := Lib.hid (rLook w γ id q c0 b h hlen t 1 n hn)
    rw [if_pos hk]
    rw [show decide (b.l.kind (n : Int) = 1) = true from decide_eq_true hk] at HIS
    clear hok hlen hn hin hk h
    go_enter Tryz.func60, Tryz.ntmps60
    go_wp2_with (first
      | (go_at_call 127; refine HIS.out.mono ?_; rintro e w1 ⟨rfl, rfl⟩)
      | (go_at_call 128; refine HL.out.mono ?_; rintro e w2 ⟨rfl, γ', hB, hfr⟩; have HB := Lib.hid (And.intro hB hfr); clear hB hfr))
    go_ret
    exact ⟨rfl, γ', HB.out.1, HB.out.2⟩
  · rw [if_neg hk]
    rw [show decide (b.l.kind k = 1) = false from decide_eq_false hk] at HIS
    clear hok hlen hk h
    go_enter Tryz.func60, Tryz.ntmps60
    go_wp2_with (go_at_call 127; refine HIS.out.mono ?_; rintro e w1 ⟨rfl, rfl⟩)
    go_ret
    exact ⟨rfl, γ, H.out, Fr.refl _ _ _⟩
theorem rRead (h : RefAt w γ id q c0 b) {M : Int} (hok : b.Ok M) (hlen : b.log.length ≤ 1000000) (t k : Int) :
    Calls Tryz.prog 65 #[.pointer (some ⟨q, 0, none⟩), .int .i64 t, .int .i64 k] w (RMutEnd w γ id q c0 (.int .u64 (b.read t k).1) (b.read t k).2) := by
  have HIS := Lib.hid (rIs w γ id q c0 b h k 2 (by decide))
  have H := Lib.hid h
  unfold BS.read
  by_cases hk : b.l.kind k = 2
  · obtain ⟨n, rfl, hn, hin⟩ := hok.cell (.inr hk)
    have HL := Lib.hid (rLook w γ id q c0 b h hlen t 6 n hn)
    rw [if_pos hk]
    rw [show decide (b.l.kind (n : Int) = 2) = true from decide_eq_true hk] at HIS
    clear hok hlen hn hin hk h
    go_enter Tryz.func65, Tryz.ntmps65
    go_wp2_with (first
      | (go_at_call 127; refine HIS.out.mono ?_; rintro e w1 ⟨rfl, rfl⟩)
      | (go_at_call 128; refine HL.out.mono ?_; rintro e w2 ⟨rfl, γ', hB, hfr⟩; have HB := Lib.hid (And.intro hB hfr); clear hB hfr))
    go_ret
    exact ⟨rfl, γ', HB.out.1, HB.out.2⟩
  · rw [if_neg hk]
    rw [show decide (b.l.kind k = 2) = false from decide_eq_false hk] at HIS
    clear hok hlen hk h
    go_enter Tryz.func65, Tryz.ntmps65
    go_wp2_with (go_at_call 127; refine HIS.out.mono ?_; rintro e w1 ⟨rfl, rfl⟩)
    go_ret
    exact ⟨rfl, γ, H.out, Fr.refl _ _ _⟩
theorem rStore (h : RefAt w γ id q c0 b) {M : Int} (hok : b.Ok M) (hlen : b.log.length ≤ 1000000) (t k v : Int) :
    Calls Tryz.prog 61 #[.pointer (some ⟨q, 0, none⟩), .int .i64 t, .int .i64 k, .int .u64 v] w (RMutEnd w γ id q c0 (.tuple #[]) (b.store t k v)) := by
  have HIS := Lib.hid (rIs w γ id q c0 b h k 1 (by decide))
  have H := Lib.hid h
  have hdo : ∀ (kk : Int) (n : Nat), n < b.cells.length → ∀ x : Int, Calls Tryz.prog 129 #[.pointer (some ⟨q, 0, none⟩), .int .i64 t, .int .i64 kk, .int .i64 n, .int .u64 x] w (RMutEnd w γ id q c0 (.int .u64 (b.at_ n)) (b.lay t kk n x)) := fun kk n hn x => by
    have hkh : n < (hasOf b).length := by unfold hasOf; rw [List.length_append]; omega
    have hat : (hasOf b).getD n 0 = b.at_ n := by simp [hasOf, BS.at_, List.getD_eq_getElem?_getD, List.getElem?_append_left hn]
    exact rDo w γ id q c0 b h hlen t kk n hkh x (b.at_ n) hat (b.lay t kk n x) rfl (by show b.cells.set _ x ++ _ = _; unfold hasOf; rw [List.set_append_left _ _ hn]; rfl) rfl
  have HDO := Lib.hid hdo
  clear hdo
  unfold BS.store
  by_cases hk : b.l.kind k = 1
  · obtain ⟨n, rfl, hn, hin⟩ := hok.cell (.inl hk)
    have HL := Lib.hid (HDO.out 2 n hn v)
    rw [if_pos hk]
    rw [show decide (b.l.kind (n : Int) = 1) = true from decide_eq_true hk] at HIS
    clear hok hlen hn hin hk h
    go_enter Tryz.func61, Tryz.ntmps61
    go_wp2_with (first
      | (go_at_call 127; refine HIS.out.mono ?_; rintro e w1 ⟨rfl, rfl⟩)
      | (go_at_call 129; refine HL.out.mono ?_; rintro e w2 ⟨rfl, γ', hB, hfr⟩; have HB := Lib.hid (And.intro hB hfr); clear hB hfr))
    first | go_end0 | refine bodyPost_ret (results_none rfl _ _ _) rfl ?_
    exact ⟨rfl, γ', HB.out.1, HB.out.2⟩
  · rw [if_neg hk]
    rw [show decide (b.l.kind k = 1) = false from decide_eq_false hk] at HIS
    clear hok hlen hk h
    go_enter Tryz.func61, Tryz.ntmps61
    go_wp2_with (go_at_call 127; refine HIS.out.mono ?_; rintro e w1 ⟨rfl, rfl⟩)
    first | go_end0 | refine bodyPost_ret (results_none rfl _ _ _) rfl ?_
    exact ⟨rfl, γ, H.out, Fr.refl _ _ _⟩
theorem rWrite (h : RefAt w γ id q c0 b) {M : Int} (hok : b.Ok M) (hlen : b.log.length ≤ 1000000) (t k v : Int) :
    Calls Tryz.prog 66 #[.pointer (some ⟨q, 0, none⟩), .int .i64 t, .int .i64 k, .int .u64 v] w (RMutEnd w γ id q c0 (.tuple #[]) (b.write t k v)) := by
  have HIS := Lib.hid (rIs w γ id q c0 b h k 2 (by decide))
  have H := Lib.hid h
  have hdo : ∀ (kk : Int) (n : Nat), n < b.cells.length → ∀ x : Int, Calls Tryz.prog 129 #[.pointer (some ⟨q, 0, none⟩), .int .i64 t, .int .i64 kk, .int .i64 n, .int .u64 x] w (RMutEnd w γ id q c0 (.int .u64 (b.at_ n)) (b.lay t kk n x)) := fun kk n hn x => by
    have hkh : n < (hasOf b).length := by unfold hasOf; rw [List.length_append]; omega
    have hat : (hasOf b).getD n 0 = b.at_ n := by simp [hasOf, BS.at_, List.getD_eq_getElem?_getD, List.getElem?_append_left hn]
    exact rDo w γ id q c0 b h hlen t kk n hkh x (b.at_ n) hat (b.lay t kk n x) rfl (by show b.cells.set _ x ++ _ = _; unfold hasOf; rw [List.set_append_left _ _ hn]; rfl) rfl
  have HDO := Lib.hid hdo
  clear hdo
  unfold BS.write
  by_cases hk : b.l.kind k = 2
  · obtain ⟨n, rfl, hn, hin⟩ := hok.cell (.inr hk)
    have HL := Lib.hid (HDO.out 7 n hn v)
    rw [if_pos hk]
    rw [show decide (b.l.kind (n : Int) = 2) = true from decide_eq_true hk] at HIS
    clear hok hlen hn hin hk h
    go_enter Tryz.func66, Tryz.ntmps66
    go_wp2_with (first
      | (go_at_call 127; refine HIS.out.mono ?_; rintro e w1 ⟨rfl, rfl⟩)
      | (go_at_call 129; refine HL.out.mono ?_; rintro e w2 ⟨rfl, γ', hB, hfr⟩; have HB := Lib.hid (And.intro hB hfr); clear hB hfr))
    first | go_end0 | refine bodyPost_ret (results_none rfl _ _ _) rfl ?_
    exact ⟨rfl, γ', HB.out.1, HB.out.2⟩
  · rw [if_neg hk]
    rw [show decide (b.l.kind k = 2) = false from decide_eq_false hk] at HIS
    clear hok hlen hk h
    go_enter Tryz.func66, Tryz.ntmps66
    go_wp2_with (go_at_call 127; refine HIS.out.mono ?_; rintro e w1 ⟨rfl, rfl⟩)
    first | go_end0 | refine bodyPost_ret (results_none rfl _ _ _) rfl ?_
    exact ⟨rfl, γ, H.out, Fr.refl _ _ _⟩
theorem rAdd (h : RefAt w γ id q c0 b) {M : Int} (hok : b.Ok M) (hlen : b.log.length ≤ 1000000) (hwd : c0.width = 32 ∨ c0.width = 64) (hM : M = MW c0.width) (t k m : Int) :
    Calls Tryz.prog 63 #[.pointer (some ⟨q, 0, none⟩), .int .i64 t, .int .i64 k, .int .i64 m] w (RMutEnd w γ id q c0 (.int .u64 (b.add M t k m).1) (b.add M t k m).2) := by
  subst hM
  have HIS := Lib.hid (rIs w γ id q c0 b h k 1 (by decide))
  have H := Lib.hid h
  have HW := Lib.hid hwd
  have hdo : ∀ (W : World), Below w.heap.size w W → ∀ (kk : Int) (n : Nat), n < b.cells.length → ∀ x : Int, Calls Tryz.prog 129 #[.pointer (some ⟨q, 0, none⟩), .int .i64 t, .int .i64 kk, .int .i64 n, .int .u64 x] W (RMutEnd W γ id q c0 (.int .u64 (b.at_ n)) (b.lay t kk n x)) := fun W hW kk n hn x => by
    have hkh : n < (hasOf b).length := by unfold hasOf; rw [List.length_append]; omega
    have hat : (hasOf b).getD n 0 = b.at_ n := by simp [hasOf, BS.at_, List.getD_eq_getElem?_getD, List.getElem?_append_left hn]
    exact rDo W γ id q c0 b (h.below hW) hlen t kk n hkh x (b.at_ n) hat (b.lay t kk n x) rfl (by show b.cells.set _ x ++ _ = _; unfold hasOf; rw [List.set_append_left _ _ hn]; rfl) rfl
  have HDO := Lib.hid hdo
  clear hdo
  unfold BS.add
  by_cases hk : b.l.kind k = 1
  · obtain ⟨n, rfl, hn, hin⟩ := hok.cell (.inl hk)
    have HL := Lib.hid (fun W hW => HDO.out W hW 3 n hn (addM (MW c0.width) (b.at_ n) m))
    have HU := Lib.hid (inM_u (MW2 hwd) hin)
    rw [if_pos hk]
    rw [show decide (b.l.kind (n : Int) = 1) = true from decide_eq_true hk] at HIS
    have hkh : n < (hasOf b).length := by unfold hasOf; rw [List.length_append]; omega
    have HKA := Lib.hid (And.intro hkh (show (hasOf b).getD n 0 = b.at_ n by simp [hasOf, BS.at_, List.getD_eq_getElem?_getD, List.getElem?_append_left hn]))
    have HKL := Lib.hid (show (n : Int) < (hasOf b).length by omega)
    clear hkh
    obtain ⟨rc0, cv0, hv0, lv0, hF0, hR0⟩ := h
    have hq1 : w.cell? ⟨q, 1, none⟩ = some (.int .i64 c0.width) := hF0.brd.cell 1
    clear hok hlen hn hin hk hF0 hR0 hwd
    go_enter Tryz.func63, Tryz.ntmps63
    go_wp2_with (first
      | (go_at_call 127; refine HIS.out.mono ?_; rintro e w1 ⟨rfl, rfl⟩
         obtain ⟨rc, cv, hv, lv, hF, hR⟩ := H.out
         have hq7 : w.cell? ⟨q, 7, none⟩ = some hv := hF.brd.cell 7
         obtain ⟨g, cap, rfl, hgl, hgc, hgf⟩ := row_at hF.has.1 HKA.out.1
         rw [HKA.out.2] at hgc
         have hkl := HKL.out
         clear hF hR))
    go_region_with (first
      | (go_at_call 79; refine (rplus _ _ _ HW.out HU.out _).mono ?_; rintro e w' ⟨rfl, rfl⟩)
      | (go_at_call 129; refine (HL.out _ (by repeat (first | exact Below.refl _ _ | refine Below.drew ?_ | refine below_drewN ?_ _))).mono ?_; rintro e w2 ⟨rfl, γ', hB, hfr⟩; have hfr2 := (Fr.of_below (S := OneId id) (γ := γ) (w := w) (by repeat (first | exact Below.refl _ _ | refine Below.drew ?_ | refine below_drewN ?_ _))).trans hfr; have HB := Lib.hid (And.intro hB hfr2); clear hB hfr hfr2))
    all_goals go_wp2_with fail
    all_goals go_ret
    all_goals exact ⟨rfl, γ', HB.out.1, HB.out.2⟩
  · rw [if_neg hk]
    rw [show decide (b.l.kind k = 1) = false from decide_eq_false hk] at HIS
    clear hok hlen hk h
    go_enter Tryz.func63, Tryz.ntmps63
    go_wp2_with (go_at_call 127; refine HIS.out.mono ?_; rintro e w1 ⟨rfl, rfl⟩)
    go_ret
    exact ⟨rfl, γ, H.out, Fr.refl _ _ _⟩
theorem rSwap (h : RefAt w γ id q c0 b) {M : Int} (hok : b.Ok M) (hlen : b.log.length ≤ 1000000) (t k old v : Int) :
    Calls Tryz.prog 64 #[.pointer (some ⟨q, 0, none⟩), .int .i64 t, .int .i64 k, .int .u64 old, .int .u64 v] w (RMutEnd w γ id q c0 (.bool (b.swap t k old v).1) (b.swap t k old v).2) := by
  have HIS := Lib.hid (rIs w γ id q c0 b h k 1 (by decide))
  have H := Lib.hid h
  have hdo : ∀ (kk : Int) (n : Nat), n < b.cells.length → ∀ x : Int, Calls Tryz.prog 129 #[.pointer (some ⟨q, 0, none⟩), .int .i64 t, .int .i64 kk, .int .i64 n, .int .u64 x] w (RMutEnd w γ id q c0 (.int .u64 (b.at_ n)) (b.lay t kk n x)) := fun kk n hn x => by
    have hkh : n < (hasOf b).length := by unfold hasOf; rw [List.length_append]; omega
    have hat : (hasOf b).getD n 0 = b.at_ n := by simp [hasOf, BS.at_, List.getD_eq_getElem?_getD, List.getElem?_append_left hn]
    exact rDo w γ id q c0 b h hlen t kk n hkh x (b.at_ n) hat (b.lay t kk n x) rfl (by show b.cells.set _ x ++ _ = _; unfold hasOf; rw [List.set_append_left _ _ hn]; rfl) rfl
  have HDO := Lib.hid hdo
  clear hdo
  unfold BS.swap
  by_cases hk : b.l.kind k = 1
  · obtain ⟨n, rfl, hn, hin⟩ := hok.cell (.inl hk)
    have HL := Lib.hid (HDO.out 4 n hn v)
    have HM := Lib.hid (rLook w γ id q c0 b h hlen t 5 n hn)
    rw [if_pos hk]
    rw [show decide (b.l.kind (n : Int) = 1) = true from decide_eq_true hk] at HIS
    have hkh : n < (hasOf b).length := by unfold hasOf; rw [List.length_append]; omega
    have HKA := Lib.hid (And.intro hkh (show (hasOf b).getD n 0 = b.at_ n by simp [hasOf, BS.at_, List.getD_eq_getElem?_getD, List.getElem?_append_left hn]))
    have HKL := Lib.hid (show (n : Int) < (hasOf b).length by omega)
    clear hkh
    clear hok hlen hn hin hk h
    by_cases he : b.at_ n = old
    · rw [if_pos he]
      have heb : (b.at_ (n : Int) != old) = false := by simp [he]
      clear he
      go_enter Tryz.func64, Tryz.ntmps64
      go_wp2_with (first
        | (go_at_call 127; refine HIS.out.mono ?_; rintro e w1 ⟨rfl, rfl⟩
           obtain ⟨rc, cv, hv, lv, hF, hR⟩ := H.out
           have hq7 : w.cell? ⟨q, 7, none⟩ = some hv := hF.brd.cell 7
           obtain ⟨g, cap, rfl, hgl, hgc, hgf⟩ := row_at hF.has.1 HKA.out.1
           rw [HKA.out.2] at hgc
           have hkl := HKL.out
           clear hF hR)
        | (go_at_call 129; refine HL.out.mono ?_; rintro e w2 ⟨rfl, γ', hB, hfr⟩; have HB := Lib.hid (And.intro hB hfr); clear hB hfr))
      go_ret
      exact ⟨rfl, γ', HB.out.1, HB.out.2⟩
    · rw [if_neg he]
      have heb : (b.at_ (n : Int) != old) = true := by simp [he]
      clear he
      go_enter Tryz.func64, Tryz.ntmps64
      go_wp2_with (first
        | (go_at_call 127; refine HIS.out.mono ?_; rintro e w1 ⟨rfl, rfl⟩
           obtain ⟨rc, cv, hv, lv, hF, hR⟩ := H.out
           have hq7 : w.cell? ⟨q, 7, none⟩ = some hv := hF.brd.cell 7
           obtain ⟨g, cap, rfl, hgl, hgc, hgf⟩ := row_at hF.has.1 HKA.out.1
           rw [HKA.out.2] at hgc
           have hkl := HKL.out
           clear hF hR)
        | (go_at_call 128; refine HM.out.mono ?_; rintro e w2 ⟨rfl, γ', hB, hfr⟩; have HB := Lib.hid (And.intro hB hfr); clear hB hfr))
      go_ret
      exact ⟨rfl, γ', HB.out.1, HB.out.2⟩
  · rw [if_neg hk]
    rw [show decide (b.l.kind k = 1) = false from decide_eq_false hk] at HIS
    clear hok hlen hk h
    go_enter Tryz.func64, Tryz.ntmps64
    go_wp2_with (go_at_call 127; refine HIS.out.mono ?_; rintro e w1 ⟨rfl, rfl⟩)
    go_ret
    exact ⟨rfl, γ, H.out, Fr.refl _ _ _⟩
end
end Go.Proofs.YtmjpdojecdnkjaaGreat
