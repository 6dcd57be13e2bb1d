/- graph.Copy: the same lists, in memory of the call's own. -/
import Derived.Test.YtnkmlopjinihiaaDoorProg
import Derived.Test.YtnkmlopjinihiaaDoorOwn
import Derived.Test.YtnkmlopjinihiaaDoorGraphP
namespace Go.Proofs.YtnkmlopjinihiaaDoor
open Go.RowKit
set_option linter.unusedVariables false
set_option linter.unusedSimpArgs false
set_option maxHeartbeats 400000

theorem int_info : (Tryd.prog.info? 3).map (fun i => (i.zero, i.size, i.bytes)) = some (some (.int .i64 0), 1, 8) := by kernel_rfl
theorem ints_info : (Tryd.prog.info? 58).map (fun i => (i.zero, i.size, i.bytes)) = some (some (.slice none 0 0), 1, 24) := by kernel_rfl
/-- the copied lists so far -/
def CopyInv (B : Nat) (wr : World) (ls : List (List Int)) (k : Nat) (out : Value) : Prop :=
  ∃ vs : List Value, vs.length = k ∧ wr.ownsRow B 58 1 out k vs ∧ ∀ (i : Nat) (l : List Int), i < k → ls[i]? = some l → ∃ v, vs[i]? = some v ∧ wr.ownsRow B 3 1 v l.length (l.map (Value.int .i64))
theorem gcopy (Bk : Nat → Prop) (up : List (List Int)) (h6 : up.length ≤ 1000) (hll : ∀ l ∈ up, l.length ≤ 1000000) (ua : Option Addr) (uc : Nat) (w : World) (hB : ∀ b, Bk b → b < w.heap.size) (hU : UpAt w Bk ua up) :
    Calls Tryd.prog 85 #[.slice ua up.length uc] w fun e w' => ∃ v, e = .returned v ∧ CopyInv w.heap.size w' up up.length v ∧ Below w.heap.size w w' := by
  obtain ⟨i0, hi, hz0, hz1, hz2⟩ := info_parts int_info
  obtain ⟨j0, hj, hy0, hy1, hy2⟩ := info_parts ints_info
  go_enter Tryd.func85, Tryd.ntmps85
  go_wp2_with fail
  go_loopw [3, 8] (fun out i wr => ∃ k : Nat, k ≤ up.length ∧ i = .int .i64 k ∧ Below w.heap.size w wr ∧ CopyInv w.heap.size wr up k out) (fun _ i _ => up.length - (intOf i).toNat)
  case atStart => exact ⟨0, by omega, rfl, Below.refl _ _, [], rfl, World.ownsRow_nil _ _ _ _, fun i l h => by omega⟩
  case round =>
    obtain ⟨k, hk, rfl, hbel, vs, hvl, hown, hvs⟩ := hrel
    have HVS := Lib.hid hvs
    have HVL := Lib.hid hvl
    clear hvs hvl
    by_cases hlt : k < up.length
    · have hx := List.getElem?_eq_getElem hlt
      obtain ⟨b, o, A', cc, rfl, hb, hc, hI, hcap⟩ := hU k _ hx
      have hlm := hll _ (List.getElem_mem hlt)
      generalize up[k] = l at *
      have hc2 := (hbel.cell (p := ⟨b, o + k, none⟩) (hB b hb)).trans hc
      have hI2 := hI.below hbel hB
      have hrd := reads_of_ints hI2 hB
      have HX := Lib.hid hx
      have HI := Lib.hid hI
      have HI2 := Lib.hid hI2
      have HRD := Lib.hid hrd
      have HU := Lib.hid hU
      have HOWN := Lib.hid hown
      have hzw := hbel.size
      obtain ⟨A0, c0, hform, hc0⟩ := own_form hown
      subst hform
      clear hx hI hI2 hc hU hrd hown
      go_wp2_with (first
        | (at_builtin
           refine wpList_append_any _ rfl (.tmp 13) (.tmp 14) 58 rfl w.heap.size 3 i0 (.int .i64 0) 1 8 Tryd.underlying58 hi hz0 hz1 hz2 rfl (by omega) _ 0 [] rfl (World.ownsRow_made wr #[] 0 hzw (by simp [maxLen]) rfl) w.heap.size A' l.length cc _ rfl (HRD.out.alloc hzw _) ?c1 ?c2 ?c3 ?c4 ?c5
           case c1 => (intro u hu; obtain ⟨x, _, rfl⟩ := List.mem_map.1 hu; rfl)
           case c2 => (simp only [maxLen]; omega)
           case c3 => omega
           case c4 => (simp; omega)
           intro v1 w1 hown1 hg1 hat1
           simp only [Nat.zero_add, List.nil_append] at hown1
           obtain ⟨A1, c1, rfl, hc1⟩ := own_form hown1
           have HOWN1 := Lib.hid hown1
           have hkp : ∀ (e s n : Nat) (v : Value) (xs : List Value), wr.ownsRow w.heap.size e s v n xs → w1.ownsRow w.heap.size e s v n xs := fun _ _ _ _ _ h => (h.alloc _).kept hg1 (by
             right
             intro he
             have := h.lt wr.heap.size he
             omega)
           have HKP := Lib.hid hkp
           have hzw1 : w.heap.size ≤ w1.heap.size := by have := hg1.size; simp at this; omega
           have HG1 := Lib.hid hg1
           clear hown1 hg1 hat1 hkp)
        | (at_builtin
           refine wpList_append_own _ rfl (.tmp 12) (.tmp 16) 23 rfl w.heap.size 58 j0 (.slice none 0 0) 1 24 Tryd.underlying23 hj hy0 hy1 hy2 rfl (by decide) (.slice A0 k c0) k vs rfl ((HKP.out _ _ _ _ _ HOWN.out).alloc _) ⟨w1.heap.size, 0, none⟩ 1 1 [.slice A1 l.length c1] rfl rfl ?d1 ?d2 ?d3 ?d4 ?d5 ?d6
           case d1 => exact cell_one_new _ _ _
           case d2 => (intro u hu; simp at hu; subst hu; rfl)
           case d3 => (simp only [maxLen]; omega)
           case d4 => omega
           case d5 => (simp; omega)
           intro v2 w2 hown2 hg2 hat2
           have HOWN2 := Lib.hid hown2
           have HG2 := Lib.hid hg2
           clear hown2 hg2 hat2))
      go_roundw
      case rel =>
        have hO1 := (HKP.out _ _ _ _ _ HOWN.out).alloc (Obj.cells #[Value.slice A1 l.length c1] 58)
        have hne : 3 ≠ 58 := by decide
        refine ⟨k + 1, by omega, by go_num, ?_, vs ++ [.slice A1 l.length c1], by simp [HVL.out], HOWN2.out, fun i l' hi' hl' => ?_⟩
        · refine Below.grown (Below.alloc (Below.grown (hbel.alloc hzw _) HG1.out (by simp; omega) ?_) hzw1 _) HG2.out (by simp; omega) ?_
          · intro q hq; have h9 : wr.heap.size = q := Option.some.inj hq; omega
          · intro q hq; exact (HOWN.out.lt q hq).1
        · by_cases hik : i = k
          · subst hik
            rw [HX.out] at hl'
            cases hl'
            exact ⟨_, by rw [List.getElem?_append_right (by rw [HVL.out]; omega), HVL.out]; simp, (HOWN1.out.alloc _).kept HG2.out (own_own_ne (HOWN1.out.alloc _) hO1 hne)⟩
          · obtain ⟨v, hv, hov⟩ := HVS.out i l' (by omega) hl'
            have h1 := (HKP.out _ _ _ _ _ hov).alloc (Obj.cells #[Value.slice A1 l.length c1] 58)
            exact ⟨v, by rw [List.getElem?_append_left (by rw [HVL.out]; omega)]; exact hv, h1.kept HG2.out (own_own_ne h1 hO1 hne)⟩
      case measure => simp [intOf]; omega
    · have hkl : k = up.length := by omega
      subst hkl
      have HOWN := Lib.hid hown
      clear hown hU
      go_wp2_with fail
      go_ret
      exact ⟨_, rfl, ⟨vs, HVL.out, HOWN.out, HVS.out⟩, hbel⟩
end Go.Proofs.YtnkmlopjinihiaaDoor
