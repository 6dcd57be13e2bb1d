/- Contracts of sakiaref09: Has, Of (a table of who is above whom), Check: the same code as graph.Check's. -/
import Derived.Test.YtnkmlopjinihiaaDoorProg
import Derived.Test.YtnkmlopjinihiaaDoorBase
import Derived.Test.YtnkmlopjinihiaaDoorGraphP
import Derived.Test.YtnkmlopjinihiaaDoorNum
import Derived.RegionTactic
import Derived.BigRegion
import Derived.Deep.WholeRow
namespace Go.Proofs.YtnkmlopjinihiaaDoor
open Go.RowKit
set_option linter.unusedVariables false
set_option linter.unusedSimpArgs false
set_option maxHeartbeats 400000

theorem rhas (Bk : Nat → Prop) (A : Option Addr) (c : Nat) (xs : List Int) (m : Nat) (hm : m ≤ xs.length) (hl : xs.length ≤ 1000000) (x : Int) (w : World) (hA : IntsAt w Bk A xs) :
    Calls Tryd.prog 170 #[.slice A m c, .int .i64 x] w fun e w' => e = .returned (.bool (decide (x ∈ xs.take m))) ∧ w = w' := by
  go_enter Tryd.func170, Tryd.ntmps170
  go_wp2_with fail
  go_loop [5] (fun i => ∃ k : Nat, k ≤ m ∧ i = .int .i64 k ∧ x ∉ xs.take k) (fun i => m - (intOf i).toNat)
  case atStart => exact ⟨0, by omega, rfl, by simp⟩
  case round =>
    obtain ⟨k, hk, rfl, hinv⟩ := hrel
    have HINV := Lib.hid hinv
    clear hinv
    by_cases hlt : k < m
    · have hx := List.getElem?_eq_getElem (show k < xs.length by omega)
      obtain ⟨b, o, rfl, hb, hc⟩ := hA k _ hx
      generalize xs[k] = y at *
      have HX := Lib.hid hx
      clear hx hA
      by_cases he : y = x
      · subst he
        go_wp2_with fail
        go_ret
        exact ⟨ret_bool (by
          have : y ∈ xs.take m := by
            have h1 : (xs.take m)[k]? = some y := by rw [List.getElem?_take, if_pos hlt]; exact HX.out
            exact List.mem_of_getElem? h1
          simp [this]), rfl⟩
      · have hb1 : (y == x) = false := by simpa using he
        have HE := Lib.hid he
        clear he
        go_wp2_with fail
        go_round
        case rel => exact ⟨k + 1, by omega, by go_num, by
          rw [take_succ_get HX.out]
          intro hm2
          rcases List.mem_append.1 hm2 with h1 | h1
          · exact HINV.out h1
          · simp at h1; exact HE.out h1.symm⟩
        case measure => simp [intOf]; omega
    · go_wp2_with fail
      go_ret
      have : k = m := by omega
      subst this
      exact ⟨ret_bool (by have := HINV.out; simp [this]), rfl⟩

/-! ### the table -/
def tabArr (t : Nat → Nat → Bool) : Array Value := ((List.range 36).map fun i => Value.bool (t (i / 6) (i % 6))).toArray
theorem tab_cell (t : Nat → Nat → Bool) {a b : Nat} (ha : a < 6) (hb : b < 6) : (tabArr t)[a * 6 + b]? = some (.bool (t a b)) := by
  unfold tabArr
  have h1 : (a * 6 + b) / 6 = a := by omega
  have h2 : (a * 6 + b) % 6 = b := by omega
  rw [List.getElem?_toArray, List.getElem?_map, List.getElem?_range (by omega)]
  simp [h1, h2]
theorem tab_set (t : Nat → Nat → Bool) {a b : Nat} (ha : a < 6) (hb : b < 6) (v : Bool) : (tabArr t).setIfInBounds (a * 6 + b) (.bool v) = tabArr (updT t a b v) := by
  unfold tabArr updT
  apply Array.ext_getElem?
  intro i
  rw [Array.getElem?_setIfInBounds]
  simp only [List.getElem?_toArray, List.getElem?_map, List.size_toArray, List.length_map, List.length_range]
  by_cases hi : i < 36
  · rw [List.getElem?_range hi]
    by_cases he : a * 6 + b = i
    · subst he
      have h1 : (a * 6 + b) / 6 = a := by omega
      have h2 : (a * 6 + b) % 6 = b := by omega
      simp [h1, h2, hi]
    · have hne : ¬ (i / 6 = a ∧ i % 6 = b) := by omega
      rw [if_neg he, Option.map_some, Option.map_some, if_neg hne]
  · have h0 : (List.range 36)[i]? = none := List.getElem?_eq_none (by simp; omega)
    rw [h0]
    simp
    omega
theorem tab_info : (Tryd.prog.info? 190).map (fun i => (i.zero.map (fun v => v.cells.toList.map (fun x => match x with | .bool b => b | _ => true)), i.size)) = some (some (List.replicate 36 false), 36) := by kernel_rfl
theorem tab_size : (Tryd.prog.info? 190).map (·.size) = some 36 := by kernel_rfl
theorem tab_len (t : Nat → Nat → Bool) : (tabArr t).size = 36 := by simp [tabArr]
theorem tab_one (t : Nat → Nat → Bool) : (tabArr t).all (·.oneCell') = true := by simp [tabArr, Value.oneCell']
theorem heap_alloc_snd (w : World) (a b : Obj) : ((w.alloc a).alloc b).heap[w.heap.size + 1]? = some b := by
  have h := heap_alloc_last (w.alloc a) b
  simpa using h
/-- the block of a table -/
def TabAt (w : World) (g : Nat) (t : Nat → Nat → Bool) : Prop := Blk w g 190 (tabArr t)
theorem TabAt.cell {w : World} {g : Nat} {t : Nat → Nat → Bool} (h : TabAt w g t) {a b : Nat} (ha : a < 6) (hb : b < 6) : w.cell? ⟨g, a * 6 + b, none⟩ = some (.bool (t a b)) := by
  rw [Blk.cell h]; exact tab_cell t ha hb
theorem TabAt.set {w : World} {g : Nat} {t : Nat → Nat → Bool} (h : TabAt w g t) {a b : Nat} (ha : a < 6) (hb : b < 6) (v : Bool) : TabAt (w.setCell ⟨g, a * 6 + b, none⟩ (.bool v)) g (updT t a b v) := by
  unfold TabAt
  rw [← tab_set t ha hb v]
  exact Blk.set_ h _ _
/-- the two tables that the call makes: what it answers, not yet laid, and the one that is worked on -/
structure TabsIn (w wr : World) (t : Nat → Nat → Bool) : Prop where
  bel : Below w.heap.size w wr
  res : TabAt wr w.heap.size (fun _ _ => false)
  tab : TabAt wr (w.heap.size + 1) t
theorem blk_setRow {w : World} {g : Nat} {ty : TypeId} {cs cs' : Array Value} (h : Blk w g ty cs) : Blk (w.setRow g cs') g ty cs' := by
  unfold Blk at h ⊢
  simp [World.setRow, Array.getElem?_modify, h]
theorem blk_setRow_far {w : World} {g g' : Nat} {ty : TypeId} {cs cs' : Array Value} (h : Blk w g ty cs) (hne : g ≠ g') : Blk (w.setRow g' cs') g ty cs := by
  unfold Blk at h ⊢
  simp only [World.setRow, Array.getElem?_modify]
  rw [if_neg (fun e => hne e.symm)]
  exact h
theorem below_setRow {B : Nat} {a w : World} (h : Below B a w) {g : Nat} (hg : B ≤ g) (cs : Array Value) : Below B a (w.setRow g cs) :=
  h.trans ⟨rfl, rfl, rfl, by simp [World.setRow], fun k hk => by simp only [World.setRow, Array.getElem?_modify]; rw [if_neg (by omega)]⟩
theorem TabsIn.start (w : World) (A B : Array Value) (hA : A = tabArr fun _ _ => false) : TabsIn w (((w.alloc (Obj.cells A 190)).alloc (Obj.cells B 190)).setRow (w.heap.size + 1) (tabArr fun _ _ => false)) (fun _ _ => false) := by
  subst hA
  refine ⟨below_setRow (((Below.refl _ _).alloc (Nat.le_refl _) _).alloc (by simp) _) (by omega) _, ?_, ?_⟩
  · exact blk_setRow_far ((Blk.new w _ _).alloc _) (by omega)
  · exact blk_setRow (cs := B) (heap_alloc_snd w _ _)
theorem TabsIn.set {w wr : World} {t : Nat → Nat → Bool} (h : TabsIn w wr t) {a b : Nat} (ha : a < 6) (hb : b < 6) (v : Bool) : TabsIn w (wr.setCell ⟨w.heap.size + 1, a * 6 + b, none⟩ (.bool v)) (updT t a b v) :=
  ⟨h.bel.setCell (by simp) _, Blk.far (h.res) (by simp) _, h.tab.set ha hb v⟩
theorem TabsIn.drew {w wr : World} {t : Nat → Nat → Bool} (h : TabsIn w wr t) (n : Nat) : TabsIn w (wr.drewN n) t := ⟨below_drewN h.bel n, h.res, h.tab⟩
theorem TabsIn.drew1 {w wr : World} {t : Nat → Nat → Bool} (h : TabsIn w wr t) : TabsIn w wr.drew t := ⟨h.bel.drew, h.res, h.tab⟩
theorem rof (Bk : Nat → Prop) (up : List (List Int)) (hn : NamesUp up) (h6 : up.length ≤ 6) (hll : ∀ l ∈ up, l.length ≤ 1000000) (ua : Option Addr) (uc : Nat) (w : World) (hB : ∀ b, Bk b → b < w.heap.size) (hU : UpAt w Bk ua up) :
    Calls Tryd.prog 171 #[.slice ua up.length uc] w fun e w' => ∃ t, e = .returned (.agg (tabArr t)) ∧ (∀ a b, a < 6 → b < 6 → (t a b = true ↔ Reach up a b)) ∧ Below w.heap.size w w' := by
  have HU := Lib.hid hU
  clear hU
  go_enter Tryd.func171, Tryd.ntmps171
  iterate 17 go_step
  refine wpList_store_row rfl 190 (.tmp 3) (.tmp 9) rfl (w.heap.size + 1) (tabArr fun _ _ => false) rfl ?hy 190 (tabArr fun _ _ => false) ?hg ?hi ?ho (tab_one _) ?hk
  case hy => rfl
  case hg => exact heap_alloc_snd w _ _
  case hi => rw [tab_len]; exact tab_size
  case ho => rw [tab_len]
  go_wp2_with fail
  go_loopw [4] (fun i wr => ∃ (c : Nat) (t : Nat → Nat → Bool), c ≤ up.length ∧ i = .int .i64 c ∧ TabsIn w wr t ∧ TabE up c 0 t) (fun i _ => up.length - (intOf i).toNat)
  case atStart => exact ⟨0, _, by omega, rfl, TabsIn.start w _ _ rfl, TabE.zero up⟩
  case round =>
    obtain ⟨c, t, hc, rfl, hT, hE⟩ := hrel
    have HE := Lib.hid hE
    clear hE
    by_cases hct : c < up.length
    · have hcl := List.getElem?_eq_getElem hct
      obtain ⟨b, o, A', cc, rfl, hb, hcA, hI, hcap⟩ := HU.out c _ hcl
      have hlm := List.getElem_mem hct
      generalize up[c] = l at *
      have hl6 := hll l hlm
      have hnm := (hn l hlm).1
      have hc0 := hT.bel.cell (p := ⟨b, o + c, none⟩) (hB b hb)
      rw [hcA] at hc0
      have HCL := Lib.hid hcl
      have HCA := Lib.hid hcA
      clear hcl hcA
      go_wp2_with fail
      go_loopw [5] (fun i wr => ∃ (q : Nat) (t : Nat → Nat → Bool), q ≤ l.length ∧ i = .int .i64 q ∧ TabsIn w wr t ∧ TabE up c q t) (fun i _ => l.length - (intOf i).toNat)
      case atStart => exact ⟨0, t, by omega, rfl, hT, HE.out⟩
      case round =>
        clear hc0 hT HE
        obtain ⟨q, t, hq, rfl, hT, hE⟩ := hrel
        have HE := Lib.hid hE
        clear hE
        have hc1 := (hT.bel.cell (p := ⟨b, o + c, none⟩) (hB b hb)).trans HCA.out
        by_cases hqt : q < l.length
        · have hx := List.getElem?_eq_getElem hqt
          obtain ⟨b2, o2, rfl, hb2, hc2⟩ := hI q _ hx
          have hxr := hnm _ (List.getElem_mem hqt)
          generalize l[q] = x at *
          obtain ⟨i, rfl⟩ := Int.eq_ofNat_of_zero_le hxr.1
          have hc3 := (hT.bel.cell (p := ⟨b2, o2 + q, none⟩) (hB b2 hb2)).trans hc2
          have hc6 : c < 6 := by omega
          have hi6 : i < 6 := by omega
          have hst := HE.out.step HCL.out hx
          have hset := hT.set hc6 hi6 true
          have HST := Lib.hid hst
          have HSET := Lib.hid hset
          have ht := hT.tab.cell hc6 hi6
          have hf := Blk.frozen hT.tab (c * 6 + i)
          have HI := Lib.hid hI
          clear hx hI hc2 hst hset
          go_wp2_with fail
          go_region
          go_wp2_with fail
          go_roundw
          case rel => exact ⟨q + 1, _, by omega, by go_num, HSET.out.drew1, HST.out⟩
          case measure => simp [intOf]; omega
        · have hql : q = l.length := by omega
          subst hql
          have hnx := Lib.hid (HE.out.next HCL.out)
          go_wp2_with fail
          go_roundw
          case rel => exact ⟨c + 1, t, by omega, by go_num, hT, hnx.out⟩
          case measure => simp [intOf]; omega
    · have hcl : up.length ≤ c := by omega
      have hM := TabM.zero hcl HE.out
      have HM := Lib.hid hM
      clear hM
      go_wp2_with fail
      go_loopw [6] (fun i wr => ∃ (k : Nat) (t : Nat → Nat → Bool), k ≤ 6 ∧ i = .int .i64 k ∧ TabsIn w wr t ∧ TabM up k 0 0 t) (fun i _ => 6 - (intOf i).toNat)
      case atStart => exact ⟨0, t, by omega, rfl, hT, HM.out⟩
      case round =>
        clear hT HM HE hcl
        obtain ⟨k, t, hk, rfl, hT, hM⟩ := hrel
        have HM := Lib.hid hM
        clear hM
        by_cases hkt : k < 6
        · go_wp2_with fail
          go_loopw [7] (fun i wr => ∃ (a : Nat) (t : Nat → Nat → Bool), a ≤ 6 ∧ i = .int .i64 a ∧ TabsIn w wr t ∧ TabM up k a 0 t) (fun i _ => 6 - (intOf i).toNat)
          case atStart => exact ⟨0, t, by omega, rfl, hT, HM.out⟩
          case round =>
            clear hT HM
            obtain ⟨a, t, ha, rfl, hT, hM⟩ := hrel
            have HM := Lib.hid hM
            clear hM
            by_cases hat : a < 6
            · go_wp2_with fail
              go_loopw [8] (fun i wr => ∃ (b : Nat) (t : Nat → Nat → Bool), b ≤ 6 ∧ i = .int .i64 b ∧ TabsIn w wr t ∧ TabM up k a b t) (fun i _ => 6 - (intOf i).toNat)
              case atStart => exact ⟨0, t, by omega, rfl, hT, HM.out⟩
              case round =>
                clear hT HM
                obtain ⟨b, t, hb, rfl, hT, hM⟩ := hrel
                have HM := Lib.hid hM
                clear hM
                by_cases hbt : b < 6
                · have HST := Lib.hid (HM.out.step hkt hat hbt)
                  have hab := hT.tab.cell hat hbt
                  have hak := hT.tab.cell hat hkt
                  have hkb := hT.tab.cell hkt hbt
                  have hf := Blk.frozen hT.tab (a * 6 + b)
                  have HSET := Lib.hid (hT.set hat hbt (t a b || (t a k && t k b)))
                  clear hT HM
                  generalize t a b = x at *
                  generalize t a k = y at *
                  generalize t k b = z at *
                  cases x with
                  | true =>
                    rw [Bool.true_or] at HST HSET
                    go_wp2_with fail
                    go_region
                    go_wp2_with fail
                    go_roundw
                    case rel => exact ⟨b + 1, _, by omega, by go_num, HSET.out.drew1, HST.out⟩
                    case measure => simp [intOf]; omega
                  | false =>
                    rw [Bool.false_or] at HST HSET
                    cases y with
                    | true =>
                      rw [Bool.true_and] at HST HSET
                      go_wp2_with fail
                      go_region
                      go_wp2_with fail
                      go_roundw
                      case rel => exact ⟨b + 1, _, by omega, by go_num, HSET.out.drew1, HST.out⟩
                      case measure => simp [intOf]; omega
                    | false =>
                      rw [Bool.false_and] at HST HSET
                      go_wp2_with fail
                      go_region
                      go_wp2_with fail
                      go_roundw
                      case rel => exact ⟨b + 1, _, by omega, by go_num, HSET.out.drew1, HST.out⟩
                      case measure => simp [intOf]; omega
                · have hbl : b = 6 := by omega
                  subst hbl
                  have HNX := Lib.hid HM.out.row
                  go_wp2_with fail
                  go_roundw
                  case rel => exact ⟨a + 1, t, by omega, by go_num, hT, HNX.out⟩
                  case measure => simp [intOf]; omega
            · have hal : a = 6 := by omega
              subst hal
              have HNX := Lib.hid HM.out.next
              go_wp2_with fail
              go_roundw
              case rel => exact ⟨k + 1, t, by omega, by go_num, hT, HNX.out⟩
              case measure => simp [intOf]; omega
        · have hkl : k = 6 := by omega
          subst hkl
          have HD := Lib.hid (HM.out.done hn h6)
          go_wp2_with (first | (refine wpList_load_row rfl 190 (.tmp 3) rfl (w.heap.size + 1) rfl 190 (tabArr t) (0, 0) _ hT.tab Tryd.underlying190 rfl (by rw [tab_len]; exact tab_size) ?_) | (refine wpList_store_row rfl 190 (.tmp 2) (.tmp 70) rfl w.heap.size (tabArr t) rfl rfl 190 (tabArr fun _ _ => false) hT.res (by rw [tab_len]; exact tab_size) (by rw [tab_len, tab_len]) (tab_one _) ?_))
          refine bodyPost_ret (results_cell_row rfl _ _ w.heap.size 190 (tabArr t) (0, 0) _ rfl (blk_setRow hT.res) Tryd.underlying190 rfl (by rw [tab_len]; exact tab_size)) rfl ?_
          exact ⟨t, rfl, HD.out, below_setRow hT.bel (Nat.le_refl _) _⟩
theorem rcheck (Bk : Nat → Prop) (up : List (List Int)) (hlen : up.length ≤ 1000000) (hll : ∀ l ∈ up, l.length ≤ 1000000) (ua : Option Addr) (uc : Nat) (w : World) (hB : ∀ b, Bk b → b < w.heap.size) (hU : UpAt w Bk ua up) :
    Calls Tryd.prog 113 #[.slice ua up.length uc] w fun e w' => e = .returned (.int .i64 (graphCode up)) ∧ Below w.heap.size w w' := by
  by_cases hl1 : up.length < 1
  · have hfin := Lib.hid (code_len (.inl hl1))
    have hz : up.length = 0 := by omega
    go_enter Tryd.func113, Tryd.ntmps113
    go_wp2_with fail
    go_ret
    exact ⟨ret_int hfin.out.symm, Below.refl _ _⟩
  by_cases hl6 : 6 < up.length
  · have hfin := Lib.hid (code_len (.inr hl6))
    have hl0 : 1 ≤ up.length := by omega
    clear hl1
    go_enter Tryd.func113, Tryd.ntmps113
    go_wp2_with fail
    go_ret
    exact ⟨ret_int hfin.out.symm, Below.refl _ _⟩
  have hl0 : 1 ≤ up.length := by omega
  have hl7 : up.length ≤ 6 := by omega
  clear hl1 hl6
  go_enter Tryd.func113, Tryd.ntmps113
  go_wp2_with fail
  go_loop [3] (fun i => ∃ k : Nat, k ≤ up.length ∧ i = .int .i64 k ∧ ∀ (j : Nat) (l : List Int), j < k → up[j]? = some l → namesB up.length l = true) (fun i => up.length - (intOf i).toNat)
  case atStart => exact ⟨0, by omega, rfl, fun j l h => by omega⟩
  case round =>
    obtain ⟨k, hk, rfl, hinv⟩ := hrel
    have HINV := Lib.hid hinv
    clear hinv
    by_cases hlt : k < up.length
    · have hx := List.getElem?_eq_getElem hlt
      obtain ⟨b, o, A', cc, rfl, hb, hc, hI, hcap⟩ := hU k _ hx
      have hlm := hll _ (List.getElem_mem hlt)
      generalize up[k] = l at *
      have HX := Lib.hid hx
      have HU := Lib.hid hU
      clear hx hU
      go_wp2_with fail
      go_loop [4] (fun i => ∃ q : Nat, q ≤ l.length ∧ i = .int .i64 q ∧ PreOk up.length l q) (fun i => l.length - (intOf i).toNat)
      case atStart => exact ⟨0, by omega, rfl, PreOk.zero _ _⟩
      case round =>
        obtain ⟨q, hq, rfl, hP⟩ := hrel
        have HP := Lib.hid hP
        clear hP
        by_cases hqt : q < l.length
        · have hy := List.getElem?_eq_getElem hqt
          obtain ⟨b2, o2, rfl, hb2, hc2⟩ := hI q _ hy
          generalize l[q] = x at *
          have HY := Lib.hid hy
          clear hy
          by_cases hr : 0 ≤ x ∧ x < up.length
          · obtain ⟨hr0, hr1⟩ := hr
            have hcon := rhas Bk (some ⟨b2, o2, none⟩) cc l q (by omega) hlm x w hI
            by_cases hmem : x ∈ l.take q
            · have hfin := Lib.hid (code_names ⟨hl0, hl7⟩ HX.out (PreOk.twice (n := up.length) HY.out hmem))
              have HCON := Lib.hid (hcon.mono (R' := fun e w' => e = .returned (.bool true) ∧ w = w') fun e w' h => ⟨h.1.trans (ret_bool (by simpa using hmem)), h.2⟩)
              have HI := Lib.hid hI
              clear hcon hmem hI
              go_wp2_with (go_at_call 170; refine (HCON.out).mono ?_; rintro e w' ⟨rfl, rfl⟩)
              go_ret
              exact ⟨ret_int hfin.out.symm, Below.refl _ _⟩
            · have hst := Lib.hid (HP.out.step HY.out ⟨hr0, hr1⟩ hmem)
              have HCON := Lib.hid (hcon.mono (R' := fun e w' => e = .returned (.bool false) ∧ w = w') fun e w' h => ⟨h.1.trans (ret_bool (by simpa using hmem)), h.2⟩)
              have HI := Lib.hid hI
              clear hcon hmem hI
              go_wp2_with (go_at_call 170; refine (HCON.out).mono ?_; rintro e w' ⟨rfl, rfl⟩)
              go_round
              case rel => exact ⟨q + 1, by omega, by go_num, hst.out⟩
              case measure => simp [intOf]; omega
          · have hfin := Lib.hid (code_names ⟨hl0, hl7⟩ HX.out (NamesInv.fail_range HY.out hr))
            have HI := Lib.hid hI
            clear hI
            by_cases hx0 : x < 0
            · clear hr
              go_wp2_with fail
              go_ret
              exact ⟨ret_int hfin.out.symm, Below.refl _ _⟩
            · have hxn : (up.length : Int) ≤ x := by omega
              have hx1 : 0 ≤ x := by omega
              clear hr hx0
              go_wp2_with fail
              go_ret
              exact ⟨ret_int hfin.out.symm, Below.refl _ _⟩
        · have hql : q = l.length := by omega
          subst hql
          have hdn := Lib.hid HP.out.done
          have HI := Lib.hid hI
          clear hI
          go_wp2_with fail
          go_round
          case rel => exact ⟨k + 1, by omega, by go_num, fun j l' hj hl' => by
            by_cases hjk : j = k
            · subst hjk; rw [HX.out] at hl'; cases hl'; exact hdn.out
            · exact HINV.out j l' (by omega) hl'⟩
          case measure => simp [intOf]; omega
    · have hn : NamesUp up := namesUp_of fun j l hl => HINV.out j l (by have := (List.getElem?_eq_some_iff.1 hl).1; omega) hl
      have HCON := Lib.hid (rof Bk up hn hl7 hll ua uc w hB hU)
      have HN := Lib.hid hn
      have HU := Lib.hid hU
      clear hn hU
      go_wp2_with (first | (go_at_call 171; refine (HCON.out).mono ?_; rintro e w1 ⟨t, rfl, ht, hb1⟩; have HT := Lib.hid ht; clear ht) | (refine wpList_store_row rfl 190 (.tmp 6) (.tmp 57) rfl w1.heap.size (tabArr t) rfl rfl 190 (tabArr fun _ _ => false) (heap_alloc_new w1 _) (by rw [tab_len]; exact tab_size) (by rw [tab_len, tab_len]) (tab_one _) ?_))
      go_loop [7] (fun i => ∃ c : Nat, c ≤ up.length ∧ i = .int .i64 c ∧ ∀ j, j < c → ¬ Reach up j j) (fun i => up.length - (intOf i).toNat)
      case atStart => exact ⟨0, by omega, rfl, fun j h => by omega⟩
      case round =>
        obtain ⟨c, hc, rfl, hac⟩ := hrel
        have HAC := Lib.hid hac
        clear hac
        by_cases hct : c < up.length
        · have hc6 : c < 6 := by omega
          have hcell := fun A => TabAt.cell (w := (w1.alloc (Obj.cells A 190)).setRow w1.heap.size (tabArr t)) (blk_setRow (cs := A) (heap_alloc_new w1 _)) hc6 hc6
          have hre := HT.out c c hc6 hc6
          cases htc : t c c with
          | true =>
            rw [htc] at hcell
            have hfin := Lib.hid (code_cyc ⟨hl0, hl7⟩ HN.out hct (hre.1 htc))
            clear htc hre
            go_wp2_with fail
            go_ret
            exact ⟨ret_int hfin.out.symm, below_setRow (hb1.alloc hb1.size _) hb1.size _⟩
          | false =>
            rw [htc] at hcell
            have hno : ¬ Reach up c c := fun hr => by have := hre.2 hr; simp [htc] at this
            have HNO := Lib.hid hno
            clear htc hre hno
            go_wp2_with fail
            go_round
            case rel => exact ⟨c + 1, by omega, by go_num, fun j hj => by
              by_cases hjc : j = c
              · subst hjc; exact HNO.out
              · exact HAC.out j (by omega)⟩
            case measure => simp [intOf]; omega
        · have hfin := Lib.hid (code_ok ⟨hl0, hl7⟩ HN.out fun j hj => HAC.out j (by omega))
          go_wp2_with fail
          go_ret
          exact ⟨ret_int hfin.out.symm, below_setRow (hb1.alloc hb1.size _) hb1.size _⟩
end Go.Proofs.YtnkmlopjinihiaaDoor
