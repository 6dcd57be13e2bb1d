/- sakialaw18.TurnComes returns true for every number, and changes nothing. -/
import Derived.Test.YtmjpdojecdnkjaaLive18
import Derived.Laws.OwnMore
namespace Go.Proofs.Ytmjpdojecdnkjaa
open Go.RowKit
set_option linter.unusedVariables false
set_option linter.unusedSimpArgs false
set_option maxHeartbeats 4000000

def ptrsOf (F : Nat → Nat) (m : Nat) : List Value := (List.range m).map fun i => .pointer (some ⟨F i, 0, none⟩)
/-- board, a list of registers' addresses, and the registers: those of the i-th have the label 10 + i -/
structure CW (w0 w : World) (γ : Nat → Nat) (p : Nat) (v : Value) (F : Nat → Nat) (pc own : Nat → Int) (m : Nat) (b : BS) (tk sv : Int) (ml : Nat) : Prop where
  old : Old w0 w γ
  brd : BoardAt 111 24 87 .u32 w γ 1 p b
  lock : LockB M32 b tk sv
  len : b.log.length ≤ ml
  row : RowAt w γ 3 44 1 v m (ptrsOf F m)
  fr : ∀ i, i < m → Blk w (F i) 39 (frArr .u32 (pc i) (own i)) ∧ γ (F i) = 10 + i
section
variable {w0 w w' : World} {γ γ' : Nat → Nat} {p : Nat} {v : Value} {F : Nat → Nat} {pc own pc' own' : Nat → Int} {m : Nat} {b : BS} {tk sv : Int} {ml : Nat}
theorem CW.congr (h : CW w0 w γ p v F pc own m b tk sv ml) (he : ∀ i, i < m → pc' i = pc i ∧ own' i = own i) : CW w0 w γ p v F pc' own' m b tk sv ml :=
  ⟨h.old, h.brd, h.lock, h.len, h.row, fun i hi => by rw [(he i hi).1, (he i hi).2]; exact h.fr i hi⟩
theorem CW.start (hO : Old w0 w γ) (hB : BoardAt 111 24 87 .u32 w γ 1 p b) (hl : LockB M32 b 0 0) (hlog : b.log.length = 0) (F : Nat → Nat) (pc own : Nat → Int) : CW w0 w γ p (.slice none 0 0) F pc own 0 b 0 0 0 :=
  ⟨hO, hB, hl, by omega, ⟨World.ownsRow_nil _ _ _ _, fun g hg => by simp [Value.ownBlock] at hg⟩, fun i hi => by omega⟩
theorem CW.push (h : CW w0 w γ p v F pc own m b tk sv ml) {nv : Value} {o : Obj} {w2 : World} (hgr : ((w.alloc (.cells (frArr .u32 0 0) 39)).alloc o).grownBy w2 v.ownBlock)
    (hown : w2.ownsRow 0 44 1 nv (m + 1) (ptrsOf F m ++ [.pointer (some ⟨w.heap.size, 0, none⟩)])) (hat : ∀ g, nv.ownBlock = some g → v.ownBlock = some g ∨ g = w.heap.size + 2) :
    ∃ (γ' F' : Nat → Nat) (pc' own' : Nat → Int), F' m = w.heap.size ∧ pc' m = 0 ∧ own' m = 0 ∧ (∀ i, i < m → pc' i = pc i ∧ own' i = own i) ∧ CW w0 w2 γ' p nv F' pc' own' (m + 1) b tk sv ml := by
  have hlt := h.row.1.lt
  have f1 : Fr (OneId 3) γ γ w w2 := (((Fr.refl _ _ _).alloc _).alloc _).grown hgr (fun k hk => .inr (h.row.2 k hk))
  have hr := f1.relabel (fun k => if k = w.heap.size then 10 + m else 3)
  have hnb : some w.heap.size ≠ v.ownBlock := fun e => by have := (hlt _ e.symm).2; omega
  refine ⟨_, (fun i => if i = m then w.heap.size else F i), (fun i => if i = m then 0 else pc i), (fun i => if i = m then 0 else own i), if_pos rfl, if_pos rfl, if_pos rfl, fun i hi => ⟨if_neg (by omega), if_neg (by omega)⟩, h.old.fr hr (by rintro h; cases h), h.brd.fr hr (by rintro h; cases h), h.lock, h.len, ⟨?_, ?_⟩, ?_⟩
  · have : ptrsOf (fun i => if i = m then w.heap.size else F i) (m + 1) = ptrsOf F m ++ [.pointer (some ⟨w.heap.size, 0, none⟩)] := by
      unfold ptrsOf
      rw [List.range_succ, List.map_append]
      congr 1
      · apply List.map_congr_left
        intro i hi
        have : i < m := List.mem_range.1 hi
        simp only [if_neg (show ¬ i = m by omega)]
      · simp
    rw [this]; exact hown
  · intro g hg
    show (if g < w.heap.size then γ g else _) = 3
    rcases hat g hg with h5 | h5
    · rw [if_pos (hlt g h5).2]; exact h.row.2 g h5
    · rw [if_neg (by omega), if_neg (by omega)]
  · intro i hi
    by_cases he : i = m
    · subst he
      simp only [if_true]
      refine ⟨(((Blk.new w _ _).alloc _)).grown hgr hnb, ?_⟩
      rw [if_neg (by omega)]
    · have h1 := h.fr i (by omega)
      simp only [if_neg he]
      refine ⟨hr.block_ h1.1 (by rw [h1.2]; show ¬ (10 + i = 3); omega), ?_⟩
      rw [if_pos h1.1.lt]; exact h1.2
theorem CW.ptr (h : CW w0 w γ p v F pc own m b tk sv ml) (hm : 0 < m) : ∃ g cap, v = .slice (some ⟨g, 0, none⟩) m cap ∧ ∀ i, i < m → w.cell? ⟨g, i, none⟩ = some (.pointer (some ⟨F i, 0, none⟩)) := by
  obtain ⟨g, cap, rfl, _, hlt⟩ := h.row.1.form hm
  refine ⟨g, cap, rfl, fun i hi => ?_⟩
  rw [h.row.1.cellAt i (by simpa using hi)]
  simp [ptrsOf, List.getElem?_map, List.getElem?_range hi]
theorem CW.ptrAt {g cap : Nat} (h : CW w0 w γ p (.slice (some ⟨g, 0, none⟩) m cap) F pc own m b tk sv ml) (i : Nat) (hi : i < m) : w.cell? ⟨g, i, none⟩ = some (.pointer (some ⟨F i, 0, none⟩)) := by
  obtain ⟨g', cap', he, hc⟩ := h.ptr (by omega)
  injection he with h1 _ _
  injection h1 with h1
  injection h1 with h1 _ _
  subst h1
  exact hc i hi
theorem cw_enter (h : CW w0 w γ p v F pc own m b tk sv ml) (hm : ml ≤ 1000000) (i : Nat) (hi : i < m) (t : Int) :
    Calls Try.prog 21 #[.pointer (some ⟨p, 0, none⟩), .int .i64 t, .pointer (some ⟨F i, 0, none⟩)] w fun e w' => e = .returned (.bool (tsEnter M32 tk sv (pc i) (own i)).1) ∧
      ∃ γ' b' pc' own', (pc' i = (tsEnter M32 tk sv (pc i) (own i)).2.2.1 ∧ own' i = (tsEnter M32 tk sv (pc i) (own i)).2.2.2) ∧ (∀ j, j ≠ i → pc' j = pc j ∧ own' j = own j) ∧ CW w0 w' γ' p v F pc' own' m b' (tsEnter M32 tk sv (pc i) (own i)).2.1 sv (ml + 1) := by
  obtain ⟨b', he, hl, hn⟩ := h.lock.enter (.inl rfl) t (pc i) (own i)
  have hfi := h.fr i hi
  have hq := tEnter32 w γ 1 (10 + i) p b h.brd h.lock.ok (by have := h.len; omega) t (F i) 0 _ _ hfi.1 hfi.2 (by omega) (pc i) (own i) rfl rfl
  refine hq.mono ?_
  rw [he]
  rintro e w' ⟨rfl, γ', hB, hF, hfr⟩
  rw [frArr_set] at hF
  refine ⟨rfl, γ', b', (fun j => if j = i then (tsEnter M32 tk sv (pc i) (own i)).2.2.1 else pc j), (fun j => if j = i then (tsEnter M32 tk sv (pc i) (own i)).2.2.2 else own j), ⟨if_pos rfl, if_pos rfl⟩, fun j hj => ⟨if_neg hj, if_neg hj⟩, h.old.fr hfr (by rintro (h | h) <;> omega), hB, hl, by have := h.len; omega, h.row.fr hfr (by rintro (h | h) <;> omega), ?_⟩
  intro j hj
  have hfj := h.fr j hj
  by_cases hij : j = i
  · subst hij
    simp only [if_true]
    exact ⟨hF, (hfr.lab _ hfi.1.lt).trans hfi.2⟩
  · simp only [if_neg hij]
    exact ⟨hfr.block_ hfj.1 (by rw [hfj.2]; rintro (h | h) <;> omega), (hfr.lab _ hfj.1.lt).trans hfj.2⟩
theorem cw_leave (h : CW w0 w γ p v F pc own m b tk sv ml) (hm : ml ≤ 1000000) (t : Int) :
    Calls Try.prog 20 #[.pointer (some ⟨p, 0, none⟩), .int .i64 t] w fun e w' => e = .returned (.tuple #[]) ∧ ∃ γ' b', CW w0 w' γ' p v F pc own m b' tk (addM M32 sv 1) (ml + 1) := by
  have hl := h.lock.leave (.inl rfl) t
  refine (tLeave32 w γ 1 p b h.brd h.lock.ok (by have := h.len; omega) t).mono ?_
  rintro e w' ⟨rfl, γ', hB, hfr⟩
  refine ⟨rfl, γ', _, h.old.fr hfr (by rintro h; cases h), hB, hl.1, by have := h.len; omega, h.row.fr hfr (by rintro h; cases h), fun j hj => ?_⟩
  have hfj := h.fr j hj
  exact ⟨hfr.block_ hfj.1 (by rw [hfj.2]; show ¬ (10 + j = 1); omega), (hfr.lab _ hfj.1.lt).trans hfj.2⟩
theorem CW.below (h : CW w0 w γ p v F pc own m b tk sv ml) (hb : Below w.heap.size w w') : CW w0 w' γ p v F pc own m b tk sv ml := by
  have hfr : Fr NoId γ γ w w' := Fr.of_below hb _ _
  refine ⟨h.old.fr hfr (fun h => h), h.brd.below hb, h.lock, h.len, h.row.fr hfr (fun h => h), fun j hj => ?_⟩
  have hfj := h.fr j hj
  exact ⟨hfr.block_ hfj.1 (fun h => h), hfj.2⟩
theorem cw_waiting (h : CW w0 w γ p v F pc own m b tk sv ml) : Calls Try.prog 22 #[.pointer (some ⟨p, 0, none⟩)] w fun e w' => e = .returned (.int .i64 (difM M32 tk sv)) ∧ CW w0 w' γ p v F pc own m b tk sv ml := by
  refine (tWaiting32 w γ 1 p b h.brd h.lock.ok (fun _ => ⟨h.lock.kt, h.lock.ks⟩)).mono ?_
  rw [h.lock.waiting]
  rintro e w' ⟨rfl, hb⟩
  exact ⟨rfl, h.below hb⟩
end
theorem news_ptr (wr : World) (o : Obj) (t : TypeId) (v : Value) : ∀ j u, [v][j]? = some u → ((wr.alloc o).alloc (.cells #[v] t)).cell? ((⟨wr.heap.size + 1, 0, none⟩ : Addr).add j) = some u := by
  have hs : (wr.alloc o).heap.size = wr.heap.size + 1 := by simp
  rw [← hs]
  exact news_one _ _ _
theorem pf_info : (Try.prog.info? 44).map (fun i => (i.zero, i.size, i.bytes)) = some (some (.pointer none), 1, 8) := by kernel_rfl
theorem addM_small {a : Int} (h : 0 ≤ a ∧ a < 4294967295) : addM M32 a 1 = a + 1 := by unfold addM M32; omega
theorem difM_small {a b : Int} (h : 0 ≤ b ∧ b ≤ a ∧ a ≤ 1000) : difM M32 a b = a - b := by unfold difM sgM M32; rw [Int.emod_eq_of_lt (by omega) (by omega), if_pos (by omega)]
theorem turnComes_any (a : Int) (ha : 0 ≤ a ∧ a < 256) (w : World) :
    Calls Try.prog 5 #[.int .u8 a] w fun e w' => e = .returned (.bool true) ∧ Below w.heap.size w w' := by
  have HV := Lib.hid live18
  have HL := Lib.hid (lockedC w)
  obtain ⟨n, hn, hnx⟩ : ∃ n : Nat, n < 200 ∧ a % 200 = n := ⟨(a % 200).toNat, by omega, by omega⟩
  obtain ⟨i0, hinf⟩ := info_parts pf_info
  have HI := Lib.hid hinf
  clear hinf
  have HN := Lib.hid hn
  go_enter Try.func5, Try.ntmps5
  go_wp2_with (go_at_call 19
               refine HL.out.mono ?_
               rintro e w1 ⟨p, ua, uc, rfl, hb1, hB1⟩
               obtain ⟨γ1, hB, hfr⟩ := hB1 (fun _ => 0) 1
               have hO := (Old.start w).fr hfr (fun h => h)
               have hlk : LockB M32 _ 0 0 := newBS_lock ⟨5, 32, 4, 1, 4294967294, ua, 1, uc⟩ rfl ⟨show 1 ≤ 1 by decide, show 1 ≤ 6 by decide⟩ (.inr (.inl rfl))
               have HS := Lib.hid (CW.start hO hB hlk rfl (fun _ => 0) (fun _ => 1) (fun j => (j : Int)))
               clear hb1 hB1 hB hfr hO hlk)
  go_loopw [5, 6] (fun v i wr => ∃ (k : Nat) (F : Nat → Nat) (γ : Nat → Nat) (b : BS), i = .int .i64 k ∧ k ≤ n + 1 ∧ CW w wr γ p v F (fun _ => 1) (fun j => (j : Int)) k b k 0 k) (fun _ i _ => n + 1 - (intOf i).toNat)
  case atStart => exact ⟨0, _, _, _, rfl, by omega, HS.out⟩
  case round =>
    obtain ⟨k, F, γ, b, rfl, hk, hcw⟩ := hrel
    by_cases hlt : k ≤ n
    · have hlti : (k : Int) ≤ n := by omega
      obtain ⟨A1, c1, rfl, hc1⟩ := own_form hcw.row.1
      have HCW := Lib.hid hcw
      have HK := Lib.hid (show k + 1 ≤ maxLen ∧ (k + 1) * 8 ≤ 140737488355328 from ⟨by unfold maxLen; have := HN.out; omega, by have := HN.out; omega⟩)
      clear hcw
      go_wp2_with (first
        | (at_builtin
           refine wpList_append_lies _ rfl (.tmp 17) (.tmp 20) 46 rfl 0 44 i0 _ 1 8 Try.underlying46 HI.out.1 HI.out.2.1 HI.out.2.2.1 HI.out.2.2.2 rfl (by decide) (.slice A1 k c1) k _ (by rfl) ((HCW.out.row.1.alloc _).alloc _) ⟨wr.heap.size + 1, 0, none⟩ 1 1 [.pointer (some ⟨wr.heap.size, 0, none⟩)] (by rfl) (by rfl) (news_ptr _ _ _ _) (by simp [Value.oneCell']) (by decide) HK.out.1 HK.out.2 (Nat.zero_le _) _ (by rfl) ?_
           intro g cc w2 hown hgrow hat hlt2
           have hc2 : w2.cell? ⟨g, k, none⟩ = some (.pointer (some ⟨wr.heap.size, 0, none⟩)) := (hown.cellAt k (by simp [ptrsOf])).trans (by simp [ptrsOf])
           obtain ⟨γ2, F2, pc2, own2, hF2, hp2, ho2, hrest, hcw2⟩ := HCW.out.push (o := .cells #[.pointer (some ⟨wr.heap.size, 0, none⟩)] 44) hgrow hown (fun g' hg' => (Option.some.inj hg') ▸ (hat.imp id (fun h5 => h5.trans (by simp))))
           have hq := cw_enter hcw2 (by have := HN.out; omega) k (by omega) k
           rw [hF2, hp2, ho2, show tsEnter M32 (k : Int) 0 0 0 = (false, (k : Int) + 1, (1 : Int), (k : Int)) by unfold tsEnter; rw [if_pos rfl, addM_small (by have := HN.out; omega)]] at hq
           have HQ := Lib.hid hq
           have HR := Lib.hid hrest
           clear hown hgrow hat hlt2 hcw2 hq hrest hp2 ho2 hF2)
        | (go_at_call 21
           refine HQ.out.mono ?_
           rintro e w3 ⟨rfl, γ3, b3, pc3, own3, he3, hne3, hcw3⟩
           have HCW3 := Lib.hid (hcw3.congr (pc' := fun _ => 1) (own' := fun j => (j : Int)) (by
             intro j hj
             by_cases hjk : j = k
             · subst hjk; exact ⟨he3.1.symm, he3.2.symm⟩
             · rw [(hne3 j hjk).1, (hne3 j hjk).2, (HR.out j (by omega)).1, (HR.out j (by omega)).2]; exact ⟨rfl, rfl⟩))
           clear hcw3 he3 hne3))
      go_round
      case rel => exact ⟨k + 1, F2, γ3, b3, by go_num, by omega, by have := HCW3.out; simpa using this⟩
      case measure => simp only [intOf]; omega
    · have hkn : k = n + 1 := by omega
      subst hkn
      obtain ⟨g, cap, rfl, hcell⟩ := hcw.ptr (by omega)
      have HCW := Lib.hid hcw
      have hnlt : ¬ ((n + 1 : Nat) : Int) ≤ n := by omega
      clear hcw hcell
      go_wp2_with fail
      go_loopw [7] (fun i wr2 => ∃ (k : Nat) (pc : Nat → Int) (γ : Nat → Nat) (b : BS), i = .int .i64 k ∧ k ≤ n + 1 ∧ (∀ j, k ≤ j → j ≤ n → pc j = 1) ∧ CW w wr2 γ p (.slice (some ⟨g, 0, none⟩) (n + 1) cap) F pc (fun j => (j : Int)) (n + 1) b ((n + 1 : Nat) : Int) k (n + 1 + 3 * k)) (fun i _ => n + 1 - (intOf i).toNat)
      case atStart => exact ⟨0, fun _ => 1, γ, b, rfl, by omega, fun _ _ _ => rfl, HCW.out⟩
      case round =>
        obtain ⟨k, pc, γ, b, rfl, hk, hpc, hcw⟩ := hrel
        have hn1 := HN.out
        by_cases hlt : k ≤ n
        · have hlti : (k : Int) ≤ n := by omega
          have hW := cw_waiting hcw
          rw [show difM M32 ((n + 1 : Nat) : Int) (k : Int) = (n : Int) + 1 - k by rw [difM_small (by omega)]; omega] at hW
          have HW := Lib.hid hW
          have hpk := hpc k (by omega) hlt
          by_cases hkn : k < n
          · have hkni : (k : Int) < n := by omega
            have hpn := hpc n (by omega) (by omega)
            have HP := Lib.hid hpc
            clear hW hpc hcw
            go_wp2_with (first
              | (go_at_call 22
                 refine HW.out.mono ?_
                 rintro e w3 ⟨rfl, hcw3⟩
                 have hc3 := hcw3.ptrAt n (by omega)
                 have HCW3 := Lib.hid hcw3
                 clear hcw3)
              | (go_at_call_of 21 (Value.pointer (some (Addr.mk (F n) 0 none)))
                 have hq := cw_enter HCW3.out (by omega) n (by omega) n
                 rw [hpn, show tsEnter M32 ((n + 1 : Nat) : Int) (k : Int) 1 ((n : Nat) : Int) = (false, ((n + 1 : Nat) : Int), 1, (n : Int)) by unfold tsEnter; rw [if_neg (by decide), if_neg (by omega)]] at hq
                 refine hq.mono ?_
                 rintro e w4 ⟨rfl, γ4, b4, pc4, own4, he4, hne4, hcw4⟩
                 have hc4 := hcw4.ptrAt k (by omega)
                 have HCW4 := Lib.hid hcw4
                 clear hcw4 hq)
              | (go_at_call_of 21 (Value.pointer (some (Addr.mk (F k) 0 none)))
                 have hq := cw_enter HCW4.out (by omega) k (by omega) k
                 rw [(hne4 k (by omega)).1, (hne4 k (by omega)).2, hpk, show tsEnter M32 ((n + 1 : Nat) : Int) (k : Int) 1 ((k : Nat) : Int) = (true, ((n + 1 : Nat) : Int), 2, (k : Int)) by unfold tsEnter; rw [if_neg (by decide), if_pos rfl]] at hq
                 refine hq.mono ?_
                 rintro e w5 ⟨rfl, γ5, b5, pc5, own5, he5, hne5, hcw5⟩
                 have HCW5 := Lib.hid hcw5
                 clear hcw5 hq)
              | (go_at_call 20
                 have hq := cw_leave HCW5.out (by omega) k
                 rw [show addM M32 (k : Int) 1 = (k : Int) + 1 by unfold addM M32; omega] at hq
                 refine hq.mono ?_
                 rintro e w6 ⟨rfl, γ6, b6, hcw6⟩
                 have HCW6 := Lib.hid hcw6
                 clear hcw6 hq))
            go_round
            case rel =>
              refine ⟨k + 1, pc5, γ6, b6, by go_num, by omega, ?_, ?_⟩
              · intro j h1 h2
                rw [(hne5 j (by omega)).1]
                by_cases hjn : j = n
                · subst hjn; exact he4.1
                · rw [(hne4 j hjn).1]; exact HP.out j (by omega) h2
              · have h6 := HCW6.out.congr (pc' := pc5) (own' := fun j => (j : Int)) (by
                  intro j hj
                  refine ⟨rfl, ?_⟩
                  by_cases hjk : j = k
                  · subst hjk; exact he5.2.symm
                  · rw [(hne5 j hjk).2]
                    by_cases hjn : j = n
                    · subst hjn; exact he4.2.symm
                    · rw [(hne4 j hjn).2])
                have e1 : ((k + 1 : Nat) : Int) = (k : Int) + 1 := by omega
                rw [e1, show n + 1 + 3 * (k + 1) = n + 1 + 3 * k + 1 + 1 + 1 by omega]
                exact h6
            case measure => simp only [intOf]; omega
          · obtain rfl : k = n := by omega
            clear hkn hW hpc hcw
            go_wp2_with (first
              | (go_at_call 22
                 refine HW.out.mono ?_
                 rintro e w3 ⟨rfl, hcw3⟩
                 have hc3 := hcw3.ptrAt k (by omega)
                 have HCW3 := Lib.hid hcw3
                 clear hcw3)
              | (go_at_call 21
                 have hq := cw_enter HCW3.out (by omega) k (by omega) k
                 rw [hpk, show tsEnter M32 ((k + 1 : Nat) : Int) (k : Int) 1 ((k : Nat) : Int) = (true, ((k + 1 : Nat) : Int), 2, (k : Int)) by unfold tsEnter; rw [if_neg (by decide), if_pos rfl]] at hq
                 refine hq.mono ?_
                 rintro e w5 ⟨rfl, γ5, b5, pc5, own5, he5, hne5, hcw5⟩
                 have HCW5 := Lib.hid hcw5
                 clear hcw5 hq)
              | (go_at_call 20
                 have hq := cw_leave HCW5.out (by omega) k
                 rw [show addM M32 (k : Int) 1 = (k : Int) + 1 by unfold addM M32; omega] at hq
                 refine hq.mono ?_
                 rintro e w6 ⟨rfl, γ6, b6, hcw6⟩
                 have HCW6 := Lib.hid hcw6
                 clear hcw6 hq))
            go_round
            case rel =>
              refine ⟨k + 1, pc5, γ6, b6, by go_num, by omega, fun j h1 h2 => by omega, ?_⟩
              have h6 := HCW6.out.congr (pc' := pc5) (own' := fun j => (j : Int)) (by
                intro j hj
                refine ⟨rfl, ?_⟩
                by_cases hjk : j = k
                · subst hjk; exact he5.2.symm
                · rw [(hne5 j hjk).2])
              have h7 : CW w w6 γ6 p (.slice (some ⟨g, 0, none⟩) (k + 1) cap) F pc5 (fun j => (j : Int)) (k + 1) b6 ((k + 1 : Nat) : Int) ((k + 1 : Nat) : Int) (k + 1 + 3 * (k + 1)) := ⟨h6.old, h6.brd, by have := h6.lock; simpa using this, by have := h6.len; omega, h6.row, h6.fr⟩
              exact h7
            case measure => simp only [intOf]; omega
        · obtain rfl : k = n + 1 := by omega
          have hW := cw_waiting hcw
          rw [show difM M32 ((n + 1 : Nat) : Int) ((n + 1 : Nat) : Int) = 0 by rw [difM_small (by omega)]; omega] at hW
          have HW := Lib.hid hW
          have hnlt2 : ¬ ((n + 1 : Nat) : Int) ≤ n := by omega
          clear hW hcw
          go_wp2_with (first
            | (go_at_call 22; refine HW.out.mono ?_; rintro e w3 ⟨rfl, hcw3⟩; have HCW3 := Lib.hid hcw3; clear hcw3)
            | (go_at_call 18; refine (HV.out _).mono ?_; rintro e w4 ⟨rfl, hb4⟩))
          go_ret
          exact ⟨rfl, HCW3.out.old.bel.trans (hb4.mono HCW3.out.old.bel.size)⟩
end Go.Proofs.Ytmjpdojecdnkjaa
