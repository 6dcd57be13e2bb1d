/- Contracts of package group (on small numbers) and of graph.names, graph.above, graph.Check. -/
import Derived.Test.YtnkmlopjinihiaaDoorProg
import Derived.Test.YtnkmlopjinihiaaDoorBase
import Derived.Test.YtnkmlopjinihiaaDoorNum
import Derived.Test.YtnkmlopjinihiaaDoorGraphP
namespace Go.Proofs.YtnkmlopjinihiaaDoor
open Go.RowKit
set_option linter.unusedVariables false
set_option linter.unusedSimpArgs false
set_option maxHeartbeats 400000

theorem gin (i : Int) (w : World) : Calls Tryd.prog 197 #[.int .i64 i] w fun e w' => e = .returned (.bool (decide (0 ≤ i ∧ i < 64))) ∧ w = w' := by
  go_enter Tryd.func197, Tryd.ntmps197
  go_wp2
  all_goals go_ret
  all_goals exact ⟨ret_bool (by grind), rfl⟩
theorem ginT (i : Nat) (hi : i < 64) (w : World) : Calls Tryd.prog 197 #[.int .i64 (i : Int)] w fun e w' => e = .returned (.bool true) ∧ w = w' :=
  (gin i w).mono fun e w' h => ⟨h.1.trans (ret_bool (by simp; omega)), h.2⟩
theorem w_has (g i : Nat) (hg : g < 18446744073709551616) : (bits BinOp.and IntKind.u64 ((g : Int) / 2 ^ i) 1 == 1) = g.testBit i := by
  have hd : g / 2 ^ i ≤ g := Nat.div_le_self _ _
  have h1 : ((g : Int) / 2 ^ i) = ((g / 2 ^ i : Nat) : Int) := by simp [Int.natCast_ediv, Int.natCast_pow]
  rw [h1]
  have h2 := bits_and_u64_nat (g / 2 ^ i) 1 (by omega) (by omega)
  rw [show ((1 : Nat) : Int) = 1 from rfl] at h2
  rw [h2, nat_mask1, Nat.testBit_eq_decide_div_mod_eq]
  rw [Bool.eq_iff_iff]
  simp
  omega
theorem w_with (g i : Nat) (hg : g < 18446744073709551616) (hi : i < 64) : bits BinOp.or IntKind.u64 (g : Int) (IntKind.u64.wrap (2 ^ i)) = ((g ||| 2 ^ i : Nat) : Int) := by
  have h3 : 2 ^ i < 18446744073709551616 := Nat.pow_lt_pow_right (m := i) (n := 64) (by omega) hi
  have h1 : IntKind.u64.wrap (2 ^ i) = ((2 ^ i : Nat) : Int) := by
    rw [u64_wrap]
    have : (2 : Int) ^ i = ((2 ^ i : Nat) : Int) := by simp [Int.natCast_pow]
    rw [this]
    generalize 2 ^ i = q at h3
    omega
  rw [h1]
  exact bits_or_u64_nat g (2 ^ i) hg h3
theorem ghas (g i : Nat) (hg : g < 18446744073709551616) (hi : i < 64) (w : World) :
    Calls Tryd.prog 192 #[.int .u64 (g : Int), .int .i64 (i : Int)] w fun e w' => e = .returned (.bool (g.testBit i)) ∧ w = w' := by
  have hd : g / 2 ^ i ≤ g := Nat.div_le_self _ _
  go_enter Tryd.func192, Tryd.ntmps192
  go_wp2_with (go_at_call 197; refine (ginT i hi _).mono ?_; rintro e w' ⟨rfl, rfl⟩)
  go_ret
  exact ⟨ret_bool (w_has g i hg), rfl⟩
theorem gwith (g i : Nat) (hg : g < 18446744073709551616) (hi : i < 64) (w : World) :
    Calls Tryd.prog 204 #[.int .u64 (g : Int), .int .i64 (i : Int)] w fun e w' => e = .returned (.int .u64 ((g ||| 2 ^ i : Nat) : Int)) ∧ w = w' := by
  go_enter Tryd.func204, Tryd.ntmps204
  go_wp2_with (go_at_call 197; refine (ginT i hi _).mono ?_; rintro e w' ⟨rfl, rfl⟩)
  go_ret
  exact ⟨ret_int (w_with g i hg hi), rfl⟩

theorem gnames (Bk : Nat → Prop) (A : Option Addr) (c : Nat) (xs : List Int) (n : Nat) (hn : n ≤ 6) (hl : xs.length ≤ 1000000) (w : World) (hA : IntsAt w Bk A xs) :
    Calls Tryd.prog 190 #[.slice A xs.length c, .int .i64 (n : Int)] w fun e w' => e = .returned (.bool (namesB n xs)) ∧ w = w' := by
  go_enter Tryd.func190, Tryd.ntmps190
  go_wp2_with fail
  go_loop [5, 10] (fun m i => ∃ k g : Nat, k ≤ xs.length ∧ i = .int .i64 k ∧ m = .int .u64 g ∧ NamesInv n xs k g) (fun _ i => xs.length - (intOf i).toNat)
  case atStart => exact ⟨0, 0, by omega, rfl, rfl, NamesInv.zero n xs⟩
  case round =>
    obtain ⟨k, g, hk, rfl, rfl, hinv⟩ := hrel
    have hg := hinv.lt
    by_cases hlt : k < xs.length
    · obtain ⟨b, o, rfl, hb, hc⟩ := hA k _ (List.getElem?_eq_getElem hlt)
      have hx := List.getElem?_eq_getElem hlt
      generalize xs[k] = x at *
      by_cases hr : 0 ≤ x ∧ x < n
      · obtain ⟨i, rfl⟩ := Int.eq_ofNat_of_zero_le hr.1
        have hi : i < 64 := by omega
        by_cases hb1 : g.testBit i = true
        · have hfin := Lib.hid (hinv.fail_twice hx hb1)
          clear hx hA
          go_wp2_with (go_at_call 192; refine (ghas g i (by omega) hi _).mono ?_; rintro e w' ⟨rfl, rfl⟩)
          go_ret
          exact ⟨ret_bool hfin.out.symm, rfl⟩
        · have hb2 : g.testBit i = false := by simpa using hb1
          have hst := Lib.hid (hinv.step hn hx (by omega) hb2)
          have hor := or_lt64 hinv.lt (show i < 6 by omega)
          clear hx hA hb1
          go_wp2_with (first | (go_at_call 192; refine (ghas g i (by omega) hi _).mono ?_; rintro e w' ⟨rfl, rfl⟩) | (go_at_call 204; refine (gwith g i (by omega) hi _).mono ?_; rintro e w' ⟨rfl, rfl⟩))
          go_round
          case rel => exact ⟨k + 1, g ||| 2 ^ i, by omega, by go_num, rfl, hst.out⟩
          case measure => simp [intOf]; omega
      · have hfin := Lib.hid (NamesInv.fail_range hx hr)
        clear hx hA
        by_cases hx0 : x < 0
        · clear hr
          go_wp2_with fail
          go_ret
          exact ⟨ret_bool hfin.out.symm, rfl⟩
        · have hxn : (n : Int) ≤ x := by omega
          have hx1 : 0 ≤ x := by omega
          clear hr hx0
          go_wp2_with fail
          go_ret
          exact ⟨ret_bool hfin.out.symm, rfl⟩
    · go_wp2_with fail
      go_ret
      have : k = xs.length := by omega
      subst this
      exact ⟨ret_bool hinv.done.symm, rfl⟩

theorem gclimb (Bk : Nat → Prop) (up : List (List Int)) (hn : NamesUp up) (h6 : up.length ≤ 6) (hll : ∀ l ∈ up, l.length ≤ 1000000) (pu pm pc : Nat) (hpm : ∀ b, Bk b → b ≠ pm) (hne1 : pu ≠ pm) (hne2 : pc ≠ pm) (ua : Option Addr) (uc : Nat) (k : Nat) :
    ∀ (c g : Nat) (l : List Int) (w : World), left6 g < k → g < 64 → up[c]? = some l → UpAt w Bk ua up → w.cell? ⟨pu, 0, none⟩ = some (.slice ua up.length uc) → w.cell? ⟨pm, 0, none⟩ = some (.int .u64 (g : Int)) → w.frozen? ⟨pm, 0, none⟩ = false →
      w.cell? ⟨pc, 0, none⟩ = some (.func (Fn.func 205) #[] #[.pointer (some ⟨pu, 0, none⟩), .pointer (some ⟨pm, 0, none⟩), .pointer (some ⟨pc, 0, none⟩)]) →
      Calls Tryd.prog 205 #[.int .i64 (c : Int), .pointer (some ⟨pu, 0, none⟩), .pointer (some ⟨pm, 0, none⟩), .pointer (some ⟨pc, 0, none⟩)] w fun e w' =>
        e = .returned (.tuple #[]) ∧ ∃ g' : Nat, w.grownBy w' (some pm) ∧ w'.cell? ⟨pm, 0, none⟩ = some (.int .u64 (g' : Int)) ∧ w'.frozen? ⟨pm, 0, none⟩ = false ∧ CInv up c g l l.length g' := by
  induction k with
  | zero => intro c g l w hk; omega
  | succ k ih =>
    intro c g l w hk hg hcl hU hcu hcm hfm hcc
    obtain ⟨b, o, A', cc, rfl, hb, hcA, hI, hcap⟩ := hU c l hcl
    have hclt : c < up.length := (List.getElem?_eq_some_iff.1 hcl).1
    have hlm : l ∈ up := List.mem_of_getElem? hcl
    have hnm := hn l hlm
    have hl6 := hll l hlm
    have HCL := Lib.hid hcl
    clear hcl
    go_enter Tryd.func205, Tryd.ntmps205
    go_wp2_with fail
    go_loopw [12] (fun i wr => ∃ q g' : Nat, q ≤ l.length ∧ i = .int .i64 q ∧ w.grownBy wr (some pm) ∧ wr.cell? ⟨pm, 0, none⟩ = some (.int .u64 (g' : Int)) ∧ wr.frozen? ⟨pm, 0, none⟩ = false ∧ CInv up c g l q g') (fun i _ => l.length - (intOf i).toNat)
    case atStart => exact ⟨0, g, by omega, rfl, ⟨rfl, rfl, rfl, Nat.le_refl _, fun _ _ _ => rfl⟩, hcm, hfm, CInv.zero hg⟩
    case round =>
      obtain ⟨q, g', hq, rfl, hgr, hcm', hfm', hinv⟩ := hrel
      have hg' := hinv.lt
      by_cases hlt : q < l.length
      · have hx := List.getElem?_eq_getElem hlt
        obtain ⟨b2, o2, rfl, hb2, hc2⟩ := hI q _ hx
        have hc2' := hgr.cell hc2 (by simpa using hpm _ hb2)
        have hxr := hnm.1 _ (List.getElem_mem hlt)
        generalize l[q] = x at *
        obtain ⟨i, rfl⟩ := Int.eq_ofNat_of_zero_le hxr.1
        have hi : i < up.length := by omega
        have hil := List.getElem?_eq_getElem hi
        generalize up[i] = l2 at *
        by_cases hb1 : g'.testBit i = true
        · have hst := Lib.hid (hinv.met hx hb1)
          have HI := Lib.hid hI
          clear hx hI hc2 hil hcm hfm hcu hcc
          go_wp2_with (go_at_call 192; refine (ghas g' i (by omega) (by omega) _).mono ?_; rintro e w' ⟨rfl, rfl⟩)
          go_roundw
          case rel => exact ⟨q + 1, g', by omega, by go_num, hgr, hcm', hfm', hst.out⟩
          case measure => simp [intOf]; omega
        · have hbf : g'.testBit i = false := by simpa using hb1
          have hl6' := left6_lt (show i < 6 by omega) hbf
          have hmn := left6_mono hinv.sub
          have hor := or_lt64 hg' (show i < 6 by omega)
          have hgr1 := grown_trans hgr (grown_setCell wr pm 0 (.int .u64 ((g' ||| 2 ^ i : Nat) : Int)))
          have hblk := World.block_lt_of_cell? wr _ hcm'
          have hih := ih i (g' ||| 2 ^ i) l2 (wr.setCell ⟨pm, 0, none⟩ (.int .u64 ((g' ||| 2 ^ i : Nat) : Int))) (by omega) hor hil (hU.grown hgr1 (fun b hb => by simpa using hpm b hb)) (hgr1.cell hcu (by simpa using hne1)) (World.cell?_setCell_same _ _ _ hcm') (by simpa using hfm') (hgr1.cell hcc (by simpa using hne2))
          have hst : ∀ g2, CInv up i (g' ||| 2 ^ i) l2 l2.length g2 → CInv up c g l (q + 1) g2 := fun g2 h2 => hinv.climbed HCL.out hx hil h2
          have HST := Lib.hid hst
          have HH := Lib.hid hih
          have hcc' := hgr.cell hcc (by simpa using hne2)
          have HI := Lib.hid hI
          clear hst hih hx hI hc2 hil hcm hfm hcu hcc hb1
          go_wp2_with (first | (go_at_call 192; refine (ghas g' i (by omega) (by omega) _).mono ?_; rintro e w' ⟨rfl, rfl⟩) | (go_at_call 204; refine (gwith g' i (by omega) (by omega) _).mono ?_; rintro e w' ⟨rfl, rfl⟩) | (go_at_call 205; refine (HH.out).mono ?_; rintro e w2 ⟨rfl, g2, hgr2, hcm2, hfm2, hinv2⟩))
          go_roundw
          case rel => exact ⟨q + 1, g2, by omega, by go_num, grown_trans hgr1 hgr2, hcm2, hfm2, HST.out g2 hinv2⟩
          case measure => simp [intOf]; omega
      · go_wp2_with fail
        go_end0
        have : q = l.length := by omega
        subst this
        exact ⟨rfl, g', hgr, hcm', hfm', hinv⟩
theorem gabove (Bk : Nat → Prop) (up : List (List Int)) (hn : NamesUp up) (h6 : up.length ≤ 6) (hll : ∀ l ∈ up, l.length ≤ 1000000) (ua : Option Addr) (uc c : Nat) (hc : c < up.length) (w : World) (hB : ∀ b, Bk b → b < w.heap.size) (hU : UpAt w Bk ua up) :
    Calls Tryd.prog 191 #[.slice ua up.length uc, .int .i64 (c : Int)] w fun e w' => ∃ g : Nat, e = .returned (.int .u64 (g : Int)) ∧ g < 64 ∧ (∀ i, g.testBit i = true ↔ Reach up c i) ∧ Below w.heap.size w w' := by
  have hcl := List.getElem?_eq_getElem hc
  generalize up[c] = l at *
  have hcon := fun W => gclimb Bk up hn h6 hll w.heap.size (w.heap.size + 1) (w.heap.size + 1 + 1) (fun b hb => by have := hB b hb; omega) (by omega) (by omega) ua uc 7 c 0 l W (by have := left6_le 0; omega) (by omega) hcl
  have HCON := Lib.hid hcon
  have HCL := Lib.hid hcl
  have HU := Lib.hid hU
  clear hcon hcl hU
  go_enter Tryd.func191, Tryd.ntmps191
  go_wp2_with fail
  refine (HCON.out _ ?_ ?_ ?_ ?_ ?_).mono ?_
  · refine HU.out.keep fun b o v hb hv => ?_
    have hlt := hB b hb
    have hn0 : b < w.heap.size + 1 := by omega
    have hn1 : b < w.heap.size + 1 + 1 := by omega
    go_simp
  · go_simp
  · go_simp
  · go_simp
  · go_simp
  · rintro e w2 ⟨rfl, g2, hgr2, hcm2, hfm2, hinv2⟩
    have hgl := hinv2.lt
    have hex := Lib.hid (hinv2.exact HCL.out)
    go_wp2_with fail
    go_ret
    refine ⟨g2, rfl, hgl, hex.out, Below.grown ?_ hgr2 ?_ ?_⟩
    · exact ((((Below.refl _ _).alloc (Nat.le_refl _) _).alloc (by simp) _).alloc (by simp; omega) _)
    · simp; omega
    · intro k hk; simp at hk; omega
theorem gcheck (Bk : Nat → Prop) (up : List (List Int)) (hlen : up.length ≤ 1000000) (hll : ∀ l ∈ up, l.length ≤ 1000000) (ua : Option Addr) (uc : Nat) (w : World) (hB : ∀ b, Bk b → b < w.heap.size) (hU : UpAt w Bk ua up) :
    Calls Tryd.prog 154 #[.slice ua up.length uc] w fun e w' => e = .returned (.int .i64 (graphCode up)) ∧ Below w.heap.size w w' := by
  by_cases hl1 : up.length < 1
  · have hfin := Lib.hid (code_len (.inl hl1))
    have hz : up.length = 0 := by omega
    go_enter Tryd.func154, Tryd.ntmps154
    go_wp2_with fail
    go_ret
    exact ⟨ret_int hfin.out.symm, Below.refl _ _⟩
  by_cases hl6 : 6 < up.length
  · have hfin := Lib.hid (code_len (.inr hl6))
    have hl0 : 1 ≤ up.length := by omega
    clear hl1
    go_enter Tryd.func154, Tryd.ntmps154
    go_wp2_with fail
    go_ret
    exact ⟨ret_int hfin.out.symm, Below.refl _ _⟩
  have hl0 : 1 ≤ up.length := by omega
  have hl7 : up.length ≤ 6 := by omega
  clear hl1 hl6
  go_enter Tryd.func154, Tryd.ntmps154
  go_wp2_with fail
  go_loop [16] (fun i => ∃ k : Nat, k ≤ up.length ∧ i = .int .i64 k ∧ ∀ j l, j < k → up[j]? = some l → namesB up.length l = true) (fun i => up.length - (intOf i).toNat)
  case atStart => exact ⟨0, by omega, rfl, fun j l h => by omega⟩
  case round =>
    obtain ⟨k, hk, rfl, hinv⟩ := hrel
    have HINV := Lib.hid hinv
    clear hinv
    by_cases hlt : k < up.length
    · have hx := List.getElem?_eq_getElem hlt
      obtain ⟨b, o, A', cc, rfl, hb, hc, hI, hcap⟩ := hU k _ hx
      have hlm := hll _ (List.getElem_mem hlt)
      generalize up[k] = l at *
      by_cases hnb : namesB up.length l = true
      · have hcon := fun W => gnames Bk A' cc l up.length hl7 hlm W
        have HCON := Lib.hid hcon
        have HX := Lib.hid hx
        have HI := Lib.hid hI
        have HU := Lib.hid hU
        clear hcon hx hI hU
        go_wp2_with (go_at_call 190; refine (HCON.out _ HI.out).mono ?_; rintro e w' ⟨rfl, rfl⟩)
        go_round
        case rel => exact ⟨k + 1, by omega, by go_num, fun j l' hj hl' => by
          by_cases hjk : j = k
          · subst hjk; rw [HX.out] at hl'; cases hl'; exact hnb
          · exact HINV.out j l' (by omega) hl'⟩
        case measure => simp [intOf]; omega
      · have hnf : namesB up.length l = false := by simpa using hnb
        have hcon := fun W => gnames Bk A' cc l up.length hl7 hlm W
        have HCON := Lib.hid hcon
        have hfin := Lib.hid (code_names ⟨hl0, hl7⟩ hx hnf)
        have HI := Lib.hid hI
        have HU := Lib.hid hU
        clear hcon hx hI hU hnb
        go_wp2_with (go_at_call 190; refine (HCON.out _ HI.out).mono ?_; rintro e w' ⟨rfl, rfl⟩)
        go_ret
        exact ⟨ret_int hfin.out.symm, Below.refl _ _⟩
    · have hn : NamesUp up := namesUp_of fun j l hl => HINV.out j l (by have := (List.getElem?_eq_some_iff.1 hl).1; omega) hl
      have HN := Lib.hid hn
      have HU := Lib.hid hU
      clear hn hU
      go_wp2_with fail
      go_loopw [28] (fun i wr => ∃ q : Nat, q ≤ up.length ∧ i = .int .i64 q ∧ Below w.heap.size w wr ∧ ∀ c, c < q → ¬ Reach up c c) (fun i _ => up.length - (intOf i).toNat)
      case atStart => exact ⟨0, by omega, rfl, Below.refl _ _, fun j h => by omega⟩
      case round =>
        obtain ⟨q, hq, rfl, hbel, hacy⟩ := hrel
        have HAC := Lib.hid hacy
        clear hacy
        by_cases hqt : q < up.length
        · have hcon := gabove Bk up HN.out hl7 hll ua uc q hqt wr (fun b hb => Nat.lt_of_lt_of_le (hB b hb) hbel.size) (HU.out.below hbel hB)
          have HCON := Lib.hid hcon
          clear hcon
          go_wp2_with (first | (go_at_call 191; refine HCON.out.mono ?_; rintro e w2 ⟨g, rfl, hg64, hgr, hb2⟩; have HGR := Lib.hid hgr; clear hgr) | (go_at_call 192; refine (ghas g q (by omega) (by omega) _).mono ?_; rintro e w' ⟨rfl, rfl⟩))
          · go_ret
            exact ⟨ret_int (code_cyc ⟨hl0, hl7⟩ HN.out hqt ((HGR.out q).1 (by assumption))).symm, hbel.trans (hb2.mono hbel.size)⟩
          · go_roundw
            case rel => exact ⟨q + 1, by omega, by go_num, hbel.trans (hb2.mono hbel.size), fun c hc hr => by
              by_cases hcq : c = q
              · subst hcq
                have h1 := (HGR.out c).2 hr
                simp_all
              · exact HAC.out c (by omega) hr⟩
            case measure => simp [intOf]; omega
        · go_wp2_with fail
          go_ret
          exact ⟨ret_int (code_ok ⟨hl0, hl7⟩ HN.out fun c hc => HAC.out c (by omega)).symm, hbel⟩
end Go.Proofs.YtnkmlopjinihiaaDoor
