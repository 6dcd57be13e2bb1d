/- Contracts of group's functions on sets of numbers below six, and of graph.Ends. -/
import Derived.Test.YtnkmlopjinihiaaDoorGroupP
import Derived.Test.YtnkmlopjinihiaaDoorOwn
import Derived.Test.YtnkmlopjinihiaaDoorPlain
import Derived.Shelf.Spec.TrailingZeros
import Derived.RangeFuncBox
import Derived.RangeFuncNested
import Derived.RangeFuncLeaves
import Derived.Shelf.Abstract
import Derived.OwnWalkIn
import Derived.TacticsInMore
import Derived.LoopNIn
import Derived.LoopIn
import Derived.Maps.AppendAt
import Derived.Laws.Bits64b
import Derived.Test.YtnkmlopjinihiaaDoorProg
namespace Go.Proofs.YtnkmlopjinihiaaDoor
open Go.RowKit Go.Shelf
set_option linter.unusedVariables false
set_option linter.unusedSimpArgs false
set_option maxHeartbeats 2000000
attribute [local go_sem] Oper.semAt_some

/-- the table of math/bits in its variable -/
def TabG (g : Nat) (w : World) : Prop := ∀ j, j < 64 → w.cell? ⟨g, j, none⟩ = some (.int .u8 (Lib.deBruijn64tab.getD j 0))
theorem TabG.below {g B : Nat} {w w' : World} (h : TabG g w) (hb : Below B w w') (hg : g < B) : TabG g w' := fun j hj => (hb.cell (p := ⟨g, j, none⟩) hg).trans (h j hj)
theorem gFull (n : Nat) (hn : n < 7) (w : World) :
    Calls Tryd.prog 163 #[.int .i64 n] w fun e w' => e = .returned (.int .u64 (fullM n)) ∧ w = w' := by
  match n, hn with
  | 0, _ => 
    go_enter Tryd.func163, Tryd.ntmps163
    go_wp2
    go_ret
    exact ⟨rfl, rfl⟩
  | 1, _ | 2, _ | 3, _ | 4, _ | 5, _ | 6, _ =>
    go_enter Tryd.func163, Tryd.ntmps163
    go_wp2
    go_ret
    exact ⟨rfl, rfl⟩
theorem gIn (i : Nat) (hi : i < 6) (w : World) :
    Calls Tryd.prog 197 #[.int .i64 i] w fun e w' => e = .returned (.bool true) ∧ w = w' := by
  have h64 : decide ((i : Int) < 64) = true := decide_eq_true (by omega)
  go_enter Tryd.func197, Tryd.ntmps197
  go_wp2
  go_ret
  exact ⟨rfl, rfl⟩
theorem clr_op : ∀ i < 6, ∀ m < 64, bits .andNot .u64 ((m : Nat) : Int) ((2 ^ i : Nat) : Int) = ((clrM m i : Nat) : Int) := by decide +kernel
theorem gWithout (m i : Nat) (hm : m < 64) (hi : i < 6) (w : World) :
    Calls Tryd.prog 164 #[.int .u64 m, .int .i64 i] w fun e w' => e = .returned (.int .u64 (clrM m i)) ∧ w = w' := by
  have hop := clr_op i hi m hm
  match i, hi with
  | 0, _ | 1, _ | 2, _ | 3, _ | 4, _ | 5, _ =>
    simp only [Nat.reducePow] at hop
    have HOP := Lib.hid hop
    clear hop
    go_enter Tryd.func164, Tryd.ntmps164
    go_wp2_with (go_at_call 197; refine (gIn _ (by decide) _).mono ?_; rintro e w' ⟨rfl, rfl⟩)
    go_ret
    exact ⟨ret_int HOP.out, rfl⟩
theorem gTz0 (w : World) : Calls Tryd.prog 214 #[.int .u64 0] w fun e w' => e = .returned (.int .i64 64) ∧ w = w' := by
  go_enter Tryd.func214, Tryd.ntmps214
  go_wp2
  go_ret
  exact ⟨rfl, rfl⟩
theorem gTz_core (x k idx : Nat) (w : World) (hx0 : ((x : Int) == 0) = false)
    (key : IntKind.u64.wrap (bits BinOp.and IntKind.u64 (x : Int) (IntKind.u64.wrap (-(x : Int))) * 285870213051353865) / 288230376151711744 = (idx : Int))
    (hi : idx < 64) (hk : k < 64) (hcell : w.cell? ⟨1, idx, none⟩ = some (.int .u8 k)) :
    Calls Tryd.prog 214 #[.int .u64 x] w fun e w' => e = .returned (.int .i64 k) ∧ w = w' := by
  go_enter Tryd.func214, Tryd.ntmps214
  go_wp2_with (simp only [key])
  go_ret
  exact ⟨rfl, rfl⟩
theorem gTz (x : Nat) (hx : x < 18446744073709551616) (hx0 : x ≠ 0) (w : World) (hT : TabG 1 w) :
    Calls Tryd.prog 214 #[.int .u64 x] w fun e w' => e = .returned (.int .i64 (Lib.ctz 64 x)) ∧ w = w' := by
  obtain ⟨hlow, hk⟩ := Lib.lowest_bit 64 x hx0 hx
  obtain ⟨hi, htab⟩ := Lib.deBruijn64_at _ hk
  have hcell := hT _ hi
  rw [htab] at hcell
  exact gTz_core x _ _ w (by simp; omega) (tz64_key x _ hx hx0 hlow) hi hk hcell
theorem gLeast (m : Nat) (hm : m < 64) (w : World) (hT : TabG 1 w) :
    Calls Tryd.prog 208 #[.int .u64 m] w fun e w' => e = .returned (.tuple #[.int .i64 (leastV m), .bool (leastB m)]) ∧ w = w' := by
  by_cases h0 : m = 0
  · subst h0
    go_enter Tryd.func208, Tryd.ntmps208
    go_wp2
    go_ret2
    exact ⟨rfl, rfl⟩
  · unfold leastV leastB
    rw [if_neg h0, decide_eq_true h0]
    have hz : ((m : Int) == 0) = false := by simp; omega
    have HT := Lib.hid hT
    clear hT
    go_enter Tryd.func208, Tryd.ntmps208
    go_wp2_with (go_at_call 214; refine (gTz m (by omega) h0 _ HT.out).mono ?_; rintro e w' ⟨rfl, rfl⟩)
    go_ret2
    exact ⟨rfl, rfl⟩
theorem next_op : ∀ i < 6, ∀ m < 64, bits .andNot .u64 ((m : Nat) : Int) ((fullM (i + 1) : Nat) : Int) = ((aboveM m i : Nat) : Int) := by decide +kernel
theorem gNext (m i : Nat) (hm : m < 64) (hi : i < 6) (w : World) (hT : TabG 1 w) :
    Calls Tryd.prog 209 #[.int .u64 m, .int .i64 i] w fun e w' => e = .returned (.tuple #[.int .i64 (leastV (aboveM m i)), .bool (leastB (aboveM m i))]) ∧ w = w' := by
  have hop := next_op i hi m hm
  have HL := Lib.hid (gLeast (aboveM m i) (aboveM_lt m hm i hi) w hT)
  have HF := Lib.hid (gFull (i + 1) (by omega) w)
  generalize aboveM m i = x at *
  generalize fullM (i + 1) = y at *
  have hmx : max (i : Int) (-1) = i := by omega
  have hs1 : wrap64 ((i : Int) + 1) = ((i + 1 : Nat) : Int) := by rw [wrap64_id (by omega)]; rfl
  have h63 : decide (63 ≤ (i : Int)) = false := decide_eq_false (by omega)
  clear hT
  go_enter Tryd.func209, Tryd.ntmps209
  go_wp2_with (first
    | (go_at_call 163; refine HF.out.mono ?_; rintro e w' ⟨rfl, rfl⟩)
    | (go_at_call 208; refine HL.out.mono ?_; rintro e w' ⟨rfl, rfl⟩))
  all_goals go_ret2
  all_goals exact ⟨rfl, rfl⟩
/-- what a round of a loop over a set keeps: all that lay below n₀ but the block Bo -/
def ButOne (n₀ Bo : Nat) (W W' : World) : Prop := W.heap.size ≤ W'.heap.size ∧ ∀ b, b < n₀ → b ≠ Bo → W'.heap[b]? = W.heap[b]?
theorem ButOne.cell {n₀ Bo : Nat} {W W' : World} (h : ButOne n₀ Bo W W') {b : Nat} (hb : b < n₀) (hne : b ≠ Bo) (o : Nat) : W'.cell? ⟨b, o, none⟩ = W.cell? ⟨b, o, none⟩ := World.cell?_of_block (a := ⟨b, o, none⟩) (h.2 b hb hne)
theorem butOne_t {n₀ Bo : Nat} {A B C : World} (h : ButOne n₀ Bo A B) (k : ButOne n₀ Bo B C) : ButOne n₀ Bo A C := ⟨Nat.le_trans h.1 k.1, fun b hb hn => (k.2 b hb hn).trans (h.2 b hb hn)⟩
theorem all1_round (m k : Nat) (hm : m < 64) {x : Nat} (hx : (bitsN m)[k]? = some x) : x < 6 := bitsN_lt (List.mem_of_getElem? hx)
theorem headv {l : List Nat} {k x : Nat} (h : l[k]? = some x) : l.take k ++ [x] = l.take (k + 1) := by
  rw [List.take_add_one, h]; rfl
def leftM (iv : Value) : Value → Nat
  | .bool true => 7 - (intOf iv).toNat
  | _ => 0
set_option maxRecDepth 100000 in
theorem gAll1_in (n : Nat) (hn : 1 ≤ n) (l Bn Bo n₀ m : Nat) (hm : m < 64) (hBo : Bn < n₀) (hne : Bn ≠ Bo) (hg : 1 < n₀) (hgo : 1 ≠ Bo) (J Jx : List Nat → World → Prop)
    (hY : ∀ pre x W, J pre W → pre.length < (bitsN m).length → YieldAt Fence.wide (n - 1) Tryd.prog l #[.int .i64 (x : Nat)] W fun e W' =>
      (e = .returned (.bool true) ∧ J (pre ++ [x]) W' ∧ ButOne n₀ Bo W W') ∨ (e = .returned (.bool false) ∧ Jx (pre ++ [x]) W'))
    (W : World) (hBn : W.cell? ⟨Bn, 0, none⟩ = some (.int .u64 m)) (hT : TabG 1 W) (h0 : J [] W) :
    CallsIn Fence.wide n Tryd.prog 207 #[.func (.yield l) #[] #[], .pointer (some ⟨Bn, 0, none⟩)] W fun e W' => (∃ v, e = .returned v) ∧
      ((∃ ys, ys = bitsN m ∧ J ys W') ∨ (∃ pre, pre <+: bitsN m ∧ Jx pre W')) := by
  refine callsIn_of_wp Tryd.func207 rfl trivial ?_ rfl
  simp only [Tryd.ntmps207, List.size_toArray, List.length_cons, List.length_nil, Nat.reduceAdd, Nat.reduceSub, Array.replicate_succ, Array.replicate_zero, List.push_toArray, List.append_toArray, List.nil_append, List.cons_append]
  have HT := Lib.hid hT
  have hfb := first_b hm
  have HB := Lib.hid hBn
  gi_wp2_with (refine ⟨trivial, ?_⟩; gi_at_call 208; refine (callsIn_wide.2 (gLeast m hm _ HT.out)).mono ?_; rintro e w' ⟨rfl, rfl⟩)
  gi_loopw [3, 4] (fun iv okv wr => ∃ (k : Nat) (iz : Int), k ≤ (bitsN m).length ∧ iv = .int .i64 iz ∧ okv = .bool (decide (k < (bitsN m).length)) ∧ (∀ x, (bitsN m)[k]? = some x → iz = (x : Nat)) ∧ J ((bitsN m).take k) wr ∧ ButOne n₀ Bo W wr)
    (fun iv okv wr => leftM iv okv)
  case atStart => exact ⟨0, _, Nat.zero_le _, rfl, by first | rfl | rw [hfb.1], hfb.2, by simpa using h0, Nat.le_refl _, fun _ _ _ => rfl⟩
  case round =>
    obtain ⟨k, iz, hk, rfl, rfl, hiz, hJ, hbo⟩ := hrel
    by_cases hlt : k < (bitsN m).length
    · have hx := List.getElem?_eq_getElem hlt
      generalize (bitsN m)[k] = x at hx
      have hxi := hiz x hx
      subst hxi
      have hx6 := bitsN_lt (List.mem_of_getElem? hx)
      have hpl : ((bitsN m).take k).length < (bitsN m).length := by simp; omega
      obtain ⟨fn, tmps, assign, body, hy, hR⟩ := hY _ x wr hJ hpl
      have hdt : decide (k < (bitsN m).length) = true := decide_eq_true hlt
      rw [hdt]
      have hnx := next_b hm hx
      clear hlt hiz hJ hpl hBn hT hfb
      gi_wp2
      refine hR.mono ?_
      rintro e W3 (⟨rfl, hJ3, hk3⟩ | ⟨rfl, hJx3⟩)
      · have hbo3 := butOne_t hbo hk3
        have hc3 : W3.cell? ⟨Bn, 0, none⟩ = some (.int .u64 m) := (hbo3.cell hBo hne 0).trans HB.out
        have hT3 : TabG 1 W3 := fun j hj => (hbo3.cell hg hgo j).trans (HT.out j hj)
        have HT3 := Lib.hid hT3
        have HJ3 := Lib.hid (And.intro hJ3 hbo3)
        clear hT3 hJ3 hk3 hbo3 hbo
        gi_wp2_with (refine ⟨trivial, ?_⟩; gi_at_call 209; refine (callsIn_wide.2 (gNext m x hm hx6 _ HT3.out)).mono ?_; rintro e w' ⟨rfl, rfl⟩)
        go_roundw
        case rel => exact ⟨k + 1, _, (List.getElem?_eq_some_iff.1 hx).1, rfl, by first | rfl | rw [hnx.1], hnx.2.1, by rw [← headv hx]; exact HJ3.out.1, HJ3.out.2⟩
        case measure =>
          try rw [hnx.1]
          by_cases h2 : k + 1 < (bitsN m).length
          · have hy2 := List.getElem?_eq_getElem h2
            generalize (bitsN m)[k + 1] = y at hy2
            have h3 := hnx.2.2 y hy2
            rw [decide_eq_true h2, hnx.2.1 y hy2]
            show 7 - ((y : Nat) : Int).toNat < 7 - ((x : Nat) : Int).toNat
            omega
          · rw [decide_eq_false h2]
            show 0 < 7 - ((x : Nat) : Int).toNat
            omega
      · gi_wp2
        go_end0
        exact ⟨⟨_, rfl⟩, .inr ⟨_, ⟨(bitsN m).drop (k + 1), by rw [headv hx]; exact List.take_append_drop _ _⟩, hJx3⟩⟩
    · obtain rfl : k = (bitsN m).length := by omega
      rw [decide_eq_false hlt]
      rw [List.take_length] at hJ
      clear hiz hfb
      gi_wp2
      refine ⟨fun _ h => (by cases h), ?_⟩
      gi_wp2
      go_end0
      exact ⟨⟨_, rfl⟩, .inl ⟨_, rfl, hJ⟩⟩
theorem gAll_in (n : Nat) (m : Nat) (w : World) :
    CallsIn Fence.wide n Tryd.prog 198 #[.int .u64 m] w fun e w' => e = .returned (.func (.func 207) #[] #[.pointer (some ⟨w.heap.size, 0, none⟩)]) ∧ w' = w.alloc (.cells #[.int .u64 m] 182) := by
  refine callsIn_of_wp Tryd.func198 rfl trivial ?_ rfl
  simp only [Tryd.ntmps198, List.size_toArray, List.length_cons, List.length_nil, Nat.reduceAdd, Nat.reduceSub, Array.replicate_succ, Array.replicate_zero, List.push_toArray, List.append_toArray, List.nil_append, List.cons_append]
  gi_wp2
  go_ret
  exact ⟨rfl, rfl⟩
theorem gAll_stops (n : Nat) (hn : 1 ≤ n) (Bn Bo n₀ m : Nat) (hm : m < 64) (hBo : Bn < n₀) (hne : Bn ≠ Bo) (hg : 1 < n₀) (hgo : 1 ≠ Bo) (w : World) (hn₀ : n₀ ≤ w.heap.size)
    (hc : w.cell? ⟨Bn, 0, none⟩ = some (.int .u64 m)) (hT : TabG 1 w) :
    SeqStopsK Fence.wide n Tryd.prog 207 #[.pointer (some ⟨Bn, 0, none⟩)] (fun x : Nat => #[Value.int .i64 (x : Nat)]) (ButOne n₀ Bo) (fun ys => ys = bitsN m) (fun pre => pre <+: bitsN m) (bitsN m).length w := fun l J Jx W hW _ _ hY h0 =>
  gAll1_in n hn l Bn Bo n₀ m hm hBo hne hg hgo J Jx hY W ((hW.cell (p := ⟨Bn, 0, none⟩) (Nat.lt_of_lt_of_le hBo hn₀)).trans hc) (fun j hj => (hW.cell (p := ⟨1, j, none⟩) (Nat.lt_of_lt_of_le hg hn₀)).trans (hT j hj)) h0
theorem gint_info : (Tryd.prog.info? 3).map (fun i => (i.zero, i.size, i.bytes)) = some (some (.int .i64 0), 1, 8) := by kernel_rfl
theorem butOne_b {n₀ Bo : Nat} {w : World} (hn : n₀ ≤ w.heap.size) (W : World) (l : Nat) (o o' : Obj) (hl : w.heap.size ≤ l) (h : W.heap[l]? = some o) (_ : o.isCells = false) (_ : o.isWalk = false) : ButOne n₀ Bo W (W.putObj l o') := by
  have hb := belowK_b (w := w) hn W l o o' hl h (by assumption) (by assumption)
  exact ⟨hb.size, fun b hbb _ => hb.block b hbb⟩
set_option maxRecDepth 100000 in
theorem gList_in (n : Nat) (hn : 3 ≤ n) (m : Nat) (hm : m < 64) (w : World) (hg : 1 < w.heap.size) (hT : TabG 1 w) :
    CallsIn Fence.wide n Tryd.prog 165 #[.int .u64 m] w fun e W' => ∃ v, e = .returned v ∧ W'.ownsRow w.heap.size 3 1 v (bitsM m).length ((bitsM m).map (Value.int .i64)) ∧ Below w.heap.size w W' := by
  have h1 : 1 ≤ n := by omega
  obtain ⟨i0, hi, hz0, hz1, hz2⟩ := info_parts gint_info
  refine callsIn_of_wp_marks Tryd.func165 rfl trivial ?_ rfl
  simp only [Tryd.ntmps165, List.size_toArray, List.length_cons, List.length_nil, Nat.reduceAdd, Nat.reduceSub, Array.replicate_succ, Array.replicate_zero, List.push_toArray, List.append_toArray, List.nil_append, List.cons_append]
  have HT := Lib.hid hT
  have HG := Lib.hid hg
  clear hT hg
  gi_wp2_with (refine ⟨trivial, ?_⟩; gi_at_call 198; refine (gAll_in (n - 1) m _).mono ?_; rintro e w' ⟨rfl, rfl⟩)
  have bO := Boxed.new w 58 (.slice none 0 0)
  have bN := Boxed.new (w.alloc (.cells #[.slice none 0 0] 58)) 182 (.int .u64 m)
  rw [World.size_alloc] at bN
  have hB0 : Below w.heap.size w ((w.alloc (.cells #[.slice none 0 0] 58)).alloc (.cells #[.int .u64 m] 182)) := ((Below.refl _ w).alloc (Nat.le_refl _) _).alloc (by simp) _
  have hT0 : TabG 1 ((w.alloc (.cells #[.slice none 0 0] 58)).alloc (.cells #[.int .u64 m] 182)) := HT.out.below hB0 HG.out
  have hG := HG.out
  have hsz : ((w.alloc (.cells #[.slice none 0 0] 58)).alloc (.cells #[.int .u64 m] 182)).heap.size = w.heap.size + 2 := by simp
  refine wpIn_rangeFunc_ownG rfl h1 (gf := 207) (lb := #[.pointer (some ⟨w.heap.size + 1, 0, none⟩)]) rfl trivial (enters_of Tryd.func207 (by kernel_rfl) rfl)
    (gAll_stops (n - 1) (by omega) (w.heap.size + 1) w.heap.size (w.heap.size + 2) m hm (by omega) (by omega) (by omega) (by omega) _ (by rw [hsz]; exact Nat.le_refl _) bN.cell hT0) butOne_t (butOne_b (by rw [hsz]; exact Nat.le_refl _)) (Below.refl _ _) (fun _ => rfl)
    (fun pre W => ((∃ v, Boxed W w.heap.size 58 v ∧ W.ownsRow w.heap.size 3 1 v pre.length (pre.map (fun x : Nat => Value.int .i64 (x : Nat))) ∧ (v = .slice none 0 0 ↔ pre = [])) ∧ Boxed W (w.heap.size + 1) 182 (.int .u64 m)) ∧ Below w.heap.size w W)
    (fun _ _ _ => False)
    (OwnFrom.and (Own.from (holdsRow_own w.heap.size w.heap.size 58 3 1 (fun pre : List Nat => pre.length) (fun pre => pre.map (fun x : Nat => Value.int .i64 (x : Nat))) (fun pre v => v = .slice none 0 0 ↔ pre = [])) _ |>.and (Own.from (boxed_own (w.heap.size + 1) 182 (fun _ => .int .u64 m)) _)) (ownFrom_below (Nat.le_refl _) (by simp; omega)))
    (fun _ _ _ _ _ hs _ _ => hs)
    ⟨⟨⟨_, bO.alloc _, World.ownsRow_nil _ _ _ _, by simp⟩, bN⟩, hB0⟩
    (fun x => { tmps := #[.int .u64 m, undef, .slice none 0 0, .pointer (some ⟨w.heap.size, 0, none⟩), .int .i64 (x : Nat), .int .u64 m, .func (.func 207) #[] #[.pointer (some ⟨w.heap.size + 1, 0, none⟩)], .int .i64 (x : Nat), undef, undef, undef, undef, undef], defers := [] }) ?assign ?body ?done ?stop
  case assign =>
    intro l x W K hK
    gi_wp2
    exact hK
  case body =>
    rintro l pre x W ⟨⟨⟨v, hv, hrow, hnil⟩, hbN⟩, hB⟩ hlt
    have hc := hv.cell
    have hb6 := bitsN_len m
    gi_wp2_with (gi_at_builtin; refine wpListIn_append_own _ rfl _ _ 58 rfl w.heap.size 3 i0 (.int .i64 0) 1 8 Tryd.underlying58 hi hz0 hz1 hz2 rfl (by decide) _ _ _ rfl (hrow.alloc _) ⟨W.heap.size, 0, none⟩ 1 1 [.int .i64 (x : Nat)] rfl rfl (cell_one_new _ _ _) (by simp [Value.oneCell']) (by unfold maxLen; omega) (by omega) (by have := hB.size; simp; omega) ?_; intro v' w1 hown' hgrow _; obtain ⟨g', cap', rfl⟩ := ownsRow_succ hown'; obtain ⟨hv1, hv2, hr2, hk2, hb2⟩ := hv.appended (by decide) hrow hB.size (Nat.le_refl _) hown' hgrow; have hc1 := hv1.cell; have hf1 := hv1.frozen)
    have hbN2 := ((hbN.alloc (.cells #[.int .i64 (x : Nat)] 3)).kept hgrow ((hbN.alloc (.cells #[.int .i64 (x : Nat)] 3)).not_row (by decide) (hrow.alloc (.cells #[.int .i64 (x : Nat)] 3)))).other (B' := w.heap.size) (by omega) (.slice (some ⟨g', 0, none⟩) (pre.length + 1) cap')
    exact ⟨hk2.from _, ⟨hb2.size, fun b hb hne => by
      by_cases h : b < w.heap.size
      · exact hb2.block b h
      · obtain rfl : b = w.heap.size + 1 := by omega
        exact Eq.trans hbN2 (Eq.symm hbN)⟩, ⟨⟨_, hv2, by simpa using hr2, by simp⟩, hbN2⟩, hB.trans hb2⟩
  case done =>
    rintro D ys W hD rfl ⟨⟨⟨v, hv, hrow, hnil⟩, hbN⟩, hB⟩ hK
    have hc := hv.cell
    gi_wp2
    refine ⟨by simp, .inl ⟨_, _, rfl, run_takeDeferred hK, ?_⟩⟩
    refine ⟨_, results_tmp rfl _ _ _, v, rfl, ?_, hB.trans (belowK_b (w := w) (Nat.le_refl _) W D _ _ (by simp at hD; omega) hK rfl rfl)⟩
    have h9 := ownsRow_putObj hrow (.deferred none) hK rfl
    unfold bitsM
    simpa [List.map_map, Function.comp_def] using h9
  case stop =>
    rintro D c pre W _ _ h _
    exact h.elim
theorem gList (m : Nat) (hm : m < 64) (w : World) (hg : 1 < w.heap.size) (hT : TabG 1 w) :
    Calls Tryd.prog 165 #[.int .u64 m] w fun e W' => ∃ v, e = .returned v ∧ W'.ownsRow w.heap.size 3 1 v (bitsM m).length ((bitsM m).map (Value.int .i64)) ∧ Below w.heap.size w W' :=
  (callsIn_wide (n := 3)).1 (gList_in 3 (Nat.le_refl _) m hm w hg hT)
end Go.Proofs.YtnkmlopjinihiaaDoor
