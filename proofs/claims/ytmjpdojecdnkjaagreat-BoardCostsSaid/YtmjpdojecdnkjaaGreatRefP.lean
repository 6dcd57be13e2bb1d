/- The reference's cells and the layout's. Plain. -/
import Derived.Test.YtmjpdojecdnkjaaGreatRefOf
import Derived.Test.YtmjpdojecdnkjaaGreatMarkP
namespace Go.Proofs.YtmjpdojecdnkjaaGreat
open Go.RowKit
set_option linter.unusedVariables false
set_option linter.unusedSimpArgs false
set_option maxHeartbeats 2000000

theorem rcSlots_get (nm : List UInt8) (kind : Int) (val : Int → Int) (n k : Nat) (h : k < n) : (rcSlots nm kind val n)[k]? = some ⟨nm ++ digL k, kind, val k⟩ := by
  simp [rcSlots, List.getElem?_map, List.getElem?_range h]
theorem get_app {α : Type} {a b : List α} {k : Nat} {x : α} (h : a.length ≤ k) (hb : b[k - a.length]? = some x) : (a ++ b)[k]? = some x := by rw [List.getElem?_append_right h]; exact hb
theorem get_app' {α : Type} {a b : List α} {k : Nat} {x : α} (h : a[k]? = some x) : (a ++ b)[k]? = some x := by rw [List.getElem?_append_left (List.getElem?_eq_some_iff.1 h).1]; exact h
theorem rcMid_len (c : Cf) (hv : 1 ≤ c.variant ∧ c.variant ≤ 5) (hc : Cap2 c.cap) : ((rcMid c).length : Int) = (mkLay c).slots - c.un := by
  have := hc.bd
  unfold rcMid mkLay rcSl rcSt
  by_cases h1 : c.variant = 1
  · rw [if_pos h1, if_pos h1]; simp only [List.length_cons, List.length_nil]; omega
  · rw [if_neg h1, if_neg h1]
    by_cases h5 : c.variant = 5
    · rw [if_pos h5, if_neg (by omega), if_neg (by omega)]; simp only [List.length_cons, rcSlots_len]; omega
    · rw [if_neg h5]
      by_cases h23 : c.variant = 2 ∨ c.variant = 3
      · rw [if_pos h23]; simp only [List.length_cons, rcSlots_len]; omega
      · rw [if_neg h23, if_pos (by omega)]; simp only [List.length_cons, rcSlots_len]; omega
theorem rcOf_len (c : Cf) (hv : 1 ≤ c.variant ∧ c.variant ≤ 5) (hc : Cap2 c.cap) : ((rcOf c).length : Int) = (mkLay c).cells := by
  have h1 := rcMid_len c hv hc
  have h2 := (mkLay_cells hc).2
  have := hc.bd
  unfold rcOf rcGates
  simp only [List.length_append, rcSlots_len]
  omega
theorem mkLay_slots {c : Cf} (hc : Cap2 c.cap) : (c.un : Int) < (mkLay c).slots := by
  have := hc.bd
  unfold mkLay; split
  · dsimp only; omega
  · split <;> dsimp only <;> omega
/-- which cell the k-th one is -/
theorem rcOf_at (c : Cf) (hv : 1 ≤ c.variant ∧ c.variant ≤ 5) (hc : Cap2 c.cap) (k : Nat) (hk : (k : Int) < (mkLay c).cells) : ∃ nm, (rcOf c)[k]? = some ⟨nm, (mkLay c).kind k, (mkLay c).first k⟩ := by
  have hb := hc.bd
  have hml := rcMid_len c hv hc
  have hce := mkLay_cells hc
  have hsl := mkLay_slots hc
  have hg : (rcGates c c.un).length = c.un := rcSlots_len _ _ _ _
  unfold rcOf
  by_cases k1 : k < c.un
  · refine ⟨_, get_app' (x := (⟨nmgate ++ digL k, (mkLay c).kind k, (mkLay c).first k⟩ : RC)) ?_⟩
    unfold rcGates
    rw [rcSlots_get _ _ _ _ _ k1]
    have e1 : (mkLay c).kind k = 1 := by
      unfold Lay.kind; rw [if_neg (by omega), if_neg (by omega), if_neg (by unfold mkLay; split <;> (try split) <;> dsimp only <;> omega)]
    have e2 : (mkLay c).first k = startI c := by
      unfold Lay.first
      rw [if_neg (by unfold mkLay at *; split <;> (try split) <;> simp_all <;> omega), mkLay_c, if_pos (by unfold mkLay; split <;> (try split) <;> dsimp only <;> omega)]
    rw [e1, e2]
  · by_cases k2 : (k : Int) < (mkLay c).slots
    · suffices h : ∃ nm, (rcMid c)[k - c.un]? = some ⟨nm, (mkLay c).kind k, (mkLay c).first k⟩ by
        obtain ⟨nm, h⟩ := h
        exact ⟨nm, get_app (by omega) (get_app' (by rw [hg]; exact h))⟩
      clear hml
      unfold rcMid
      by_cases h1 : c.variant = 1
      · rw [if_pos h1]
        have e : mkLay c = ⟨c, c.un, -1, -1, -1, -1, -1, c.un + 1, c.un + 1 + c.cap⟩ := by unfold mkLay; rw [if_pos h1]
        have es : (mkLay c).slots = c.un + 1 := by rw [e]
        have ec : (mkLay c).cells = c.un + 1 + c.cap := by rw [e]
        rw [es] at k2 hsl
        rw [ec] at hk
        rw [e]
        clear hce es ec
        obtain rfl : k = c.un := by omega
        refine ⟨[99, 117, 114, 115, 111, 114], ?_⟩
        rw [Nat.sub_self]
        simp only [List.getElem?_cons_zero]
        congr 2
        · unfold Lay.kind; dsimp only; rw [if_neg (by omega), if_neg (by omega), if_neg (by omega)]
        · unfold Lay.first; dsimp only; rw [if_neg (by omega), if_pos (by omega)]
      · rw [if_neg h1]
        by_cases h5 : c.variant = 5
        · rw [if_neg (by omega), if_neg (by omega)]
          have e : mkLay c = ⟨c, -1, -1, c.un, c.un + 1, c.un + 2, c.un + 3, c.un + 3 + c.cap, c.un + 3 + c.cap + c.cap⟩ := by unfold mkLay; rw [if_neg h1, if_pos h5]
          have es : (mkLay c).slots = c.un + 3 + c.cap := by rw [e]
          have ec : (mkLay c).cells = c.un + 3 + c.cap + c.cap := by rw [e]
          rw [es] at k2 hsl
          rw [ec] at hk
          rw [e]
          clear hce es ec
          by_cases j0 : k = c.un
          · refine ⟨[116, 105, 99, 107, 101, 116], ?_⟩
            subst j0
            rw [Nat.sub_self]
            simp only [List.getElem?_cons_zero]
            congr 2
            · unfold Lay.kind; dsimp only; rw [if_neg (by omega), if_neg (by omega), if_neg (by omega)]
            · unfold Lay.first; dsimp only; rw [if_pos (by omega)]
          · by_cases j1 : k = c.un + 1
            · refine ⟨[115, 101, 114, 118, 105, 110, 103], ?_⟩
              subst j1
              rw [show c.un + 1 - c.un = 1 by omega]
              simp only [List.getElem?_cons_succ, List.getElem?_cons_zero]
              congr 2
              · unfold Lay.kind; dsimp only; rw [if_neg (by omega), if_neg (by omega), if_neg (by omega)]
              · unfold Lay.first; dsimp only; rw [if_pos (by omega)]
            · by_cases j2 : k = c.un + 2
              · refine ⟨[110, 101, 120, 116], ?_⟩
                subst j2
                rw [show c.un + 2 - c.un = 2 by omega]
                simp only [List.getElem?_cons_succ, List.getElem?_cons_zero]
                congr 2
                · unfold Lay.kind; dsimp only; rw [if_neg (by omega), if_neg (by omega), if_pos (by omega)]
                · unfold Lay.first; dsimp only; rw [if_neg (by omega), if_pos (by omega)]
              · obtain ⟨j, rfl⟩ : ∃ j, k = c.un + 3 + j := ⟨k - (c.un + 3), by omega⟩
                refine ⟨nmdone ++ digL j, ?_⟩
                rw [show c.un + 3 + j - c.un = j + 3 by omega]
                simp only [List.getElem?_cons_succ]
                unfold rcSl
                rw [rcSlots_get _ _ _ _ _ (by omega)]
                congr 2
                · unfold Lay.kind; dsimp only; rw [if_neg (by omega), if_neg (by omega), if_pos (by omega)]
                · unfold Lay.first; dsimp only; rw [if_neg (by omega), if_neg (by omega), if_neg (by omega)]
                  congr 1; omega
        · have e : mkLay c = ⟨c, -1, c.un, -1, -1, -1, c.un + 1, c.un + 1 + c.cap, c.un + 1 + c.cap + c.cap⟩ := by unfold mkLay; rw [if_neg h1, if_neg h5]
          have es : (mkLay c).slots = c.un + 1 + c.cap := by rw [e]
          have ec : (mkLay c).cells = c.un + 1 + c.cap + c.cap := by rw [e]
          rw [es] at k2 hsl
          rw [ec] at hk
          rw [e]
          clear hce es ec
          by_cases j0 : k = c.un
          · refine ⟨[99, 108, 97, 105, 109], ?_⟩
            subst j0
            rw [Nat.sub_self]
            have : ∀ l : List RC, ((⟨[99, 108, 97, 105, 109], 1, startI c⟩ : RC) :: l)[0]? = some ⟨[99, 108, 97, 105, 109], Lay.kind ⟨c, -1, c.un, -1, -1, -1, c.un + 1, c.un + 1 + c.cap, c.un + 1 + c.cap + c.cap⟩ c.un, Lay.first ⟨c, -1, c.un, -1, -1, -1, c.un + 1, c.un + 1 + c.cap, c.un + 1 + c.cap + c.cap⟩ c.un⟩ := by
              intro l
              simp only [List.getElem?_cons_zero]
              congr 2
              · unfold Lay.kind; dsimp only; rw [if_neg (by omega), if_neg (by omega), if_neg (by omega)]
              · unfold Lay.first; dsimp only; rw [if_neg (by omega), if_pos (by omega)]
            split
            · exact this _
            · rw [if_pos (by omega)]; exact this _
          · obtain ⟨j, rfl⟩ : ∃ j, k = c.un + 1 + j := ⟨k - (c.un + 1), by omega⟩
            rw [show c.un + 1 + j - c.un = j + 1 by omega]
            by_cases h4 : c.variant = 4
            · refine ⟨nmstamp ++ digL j, ?_⟩
              rw [if_neg (by omega), if_pos h4]
              simp only [List.getElem?_cons_succ]
              unfold rcSt
              rw [rcSlots_get _ _ _ _ _ (by omega)]
              congr 2
              · unfold Lay.kind; dsimp only; rw [if_neg (by omega), if_neg (by omega), if_neg (by omega)]
              · unfold Lay.first; dsimp only; rw [if_neg (by omega), if_neg (by omega), if_pos h4]
                congr 1; omega
            · refine ⟨nmmark ++ digL j, ?_⟩
              rw [if_pos (by omega)]
              simp only [List.getElem?_cons_succ]
              unfold rcSl
              rw [rcSlots_get _ _ _ _ _ (by omega)]
              congr 2
              · unfold Lay.kind; dsimp only; rw [if_neg (by omega), if_neg (by omega), if_neg (by omega)]
              · unfold Lay.first; dsimp only; rw [if_neg (by omega), if_neg (by omega), if_neg h4]
                congr 1; omega
    · refine ⟨nmslot ++ digL (k - c.un - (rcMid c).length), get_app (by omega) (get_app (by rw [hg]; omega) ?_)⟩
      rw [hg, rcSlots_get _ _ _ _ _ (by omega)]
      congr 2
      · unfold Lay.kind; rw [if_neg (by omega), if_pos (by omega)]
      · unfold Lay.first; rw [if_pos (by omega)]
end Go.Proofs.YtmjpdojecdnkjaaGreat
