/- Plain: each access finds what the last one of the same cell left. No program, no memory. -/
import Derived.Test.YtmjpdojecdnkjaaGreatBoardD
import Derived.Test.YtmjpdojecdnkjaaGreatTurnP
namespace Go.Proofs.YtmjpdojecdnkjaaGreat
open Go.RowKit
set_option linter.unusedVariables false
set_option linter.unusedSimpArgs false

/-- what a cell has, data among them -/
def BS.cur (b : BS) (k : Int) : Int := if k < b.l.slots then b.at_ k else u64I (b.datum (k - b.l.slots))
/-- one access was made -/
structure Moved (b b' : BS) (a : Acc) : Prop where
  l : b'.l = b.l
  log : b'.log = b.log ++ [a]
  old : a.old = b.cur a.cell
  here : 0 ≤ a.cell ∧ a.cell < b.l.cells
  cur : ∀ k, 0 ≤ k → b'.cur k = if k = a.cell then a.new else b.cur k
section
variable {M : Int} {b : BS}
theorem moved_lay (h : b.Fit M) {c : Int} (hc : b.l.kind c = 1 ∨ b.l.kind c = 2) (t kind v : Int) : Moved b (b.lay t kind c v) ⟨t, kind, c, b.at_ c, v⟩ := by
  obtain ⟨n, rfl, hn, _⟩ := h.ok.cell hc
  have hnc := h.ok.nc
  have hall := h.ok.all
  have hcb := h.cap.bd
  have hs : (n : Int) < b.l.slots := by omega
  refine ⟨rfl, rfl, by show b.at_ _ = _; unfold BS.cur; rw [if_pos hs], ⟨by show (0 : Int) ≤ n; omega, by show (n : Int) < _; omega⟩, fun k hk => ?_⟩
  show (if k < b.l.slots then (b.lay t kind n v).at_ k else u64I (b.datum _)) = _
  unfold BS.cur
  rw [at_set (by omega)]
  by_cases hkn : k = n
  · subst hkn
    rw [if_pos hs, if_pos rfl, if_pos rfl]
  · rw [if_neg (show ¬ k.toNat = (n : Int).toNat by omega), if_neg hkn]; rfl
theorem moved_look (h : b.Fit M) {c : Int} (hc : b.l.kind c = 1 ∨ b.l.kind c = 2) (t kind : Int) : Moved b (b.look t kind c) ⟨t, kind, c, b.at_ c, b.at_ c⟩ := by
  obtain ⟨n, rfl, hn, _⟩ := h.ok.cell hc
  have hnc := h.ok.nc
  have hall := h.ok.all
  have hcb := h.cap.bd
  have hs : (n : Int) < b.l.slots := by omega
  have he : b.cur n = b.at_ n := by unfold BS.cur; rw [if_pos hs]
  refine ⟨rfl, rfl, he.symm, ⟨by show (0 : Int) ≤ n; omega, by show (n : Int) < _; omega⟩, fun k hk => ?_⟩
  show b.cur k = if k = (n : Int) then b.at_ n else b.cur k
  split
  · rename_i hk2; rw [hk2, he]
  · rfl
theorem slot_at (h : b.Fit M) {s : Int} (hs : 0 ≤ s ∧ s < b.data.length) : b.l.slot s = b.l.slots + s ∧ 0 ≤ b.l.slots := by
  have hnd := h.ok.nd
  have hnc := h.ok.nc
  have hpos := h.ok.pos
  have hb : 0 ≤ b.l.slots := by omega
  refine ⟨?_, hb⟩
  unfold Lay.slot Lay.slotAt
  rw [if_pos (by omega)]
theorem moved_get (h : b.Fit M) {s : Int} (hs : 0 ≤ s ∧ s < b.data.length) (t : Int) : Moved b (b.note t 6 (b.l.slot s) (u64I (b.datum s)) (u64I (b.datum s))) ⟨t, 6, b.l.slot s, u64I (b.datum s), u64I (b.datum s)⟩ := by
  obtain ⟨he, hb⟩ := slot_at h hs
  have hnd := h.ok.nd
  have hall := h.ok.all
  have hcur : b.cur (b.l.slot s) = u64I (b.datum s) := by unfold BS.cur; rw [he, if_neg (by omega)]; congr 2; omega
  refine ⟨rfl, rfl, hcur.symm, ⟨by show 0 ≤ b.l.slot s; omega, by show b.l.slot s < _; omega⟩, fun k hk => ?_⟩
  show b.cur k = if k = b.l.slot s then _ else b.cur k
  split
  · rename_i hk2; rw [hk2, hcur]
  · rfl
theorem moved_put (h : b.Fit M) {s : Int} (hs : 0 ≤ s ∧ s < b.data.length) (t v : Int) : Moved b { b with data := b.data.set s.toNat v, log := b.log ++ [⟨t, 7, b.l.slot s, u64I (b.datum s), u64I v⟩] } ⟨t, 7, b.l.slot s, u64I (b.datum s), u64I v⟩ := by
  obtain ⟨he, hb⟩ := slot_at h hs
  have hnd := h.ok.nd
  have hall := h.ok.all
  have hcur : b.cur (b.l.slot s) = u64I (b.datum s) := by unfold BS.cur; rw [he, if_neg (by omega)]; congr 2; omega
  refine ⟨rfl, rfl, hcur.symm, ⟨by show 0 ≤ b.l.slot s; omega, by show b.l.slot s < _; omega⟩, fun k hk => ?_⟩
  show (if k < b.l.slots then b.at_ k else u64I ((b.data.set s.toNat v).getD (k - b.l.slots).toNat 0)) = if k = b.l.slot s then u64I v else b.cur k
  unfold BS.cur
  by_cases hk2 : k = b.l.slot s
  · rw [if_pos hk2, if_neg (by omega)]
    congr 1
    rw [List.getD_eq_getElem?_getD, List.getElem?_set, if_pos (by omega), if_pos (by omega)]
    rfl
  · rw [if_neg hk2]
    split
    · rfl
    · congr 1
      unfold BS.datum
      rw [List.getD_eq_getElem?_getD, List.getD_eq_getElem?_getD, List.getElem?_set, if_neg (by omega)]
def Mv (b b' : BS) : Prop := b' = b ∨ ∃ a, Moved b b' a
theorem mv_load (h : b.Fit M) (t k : Int) : Mv b (b.load t k).2 := by
  unfold BS.load; split
  · rename_i hk; exact .inr ⟨_, moved_look h (.inl hk) _ _⟩
  · exact .inl rfl
theorem mv_read (h : b.Fit M) (t k : Int) : Mv b (b.read t k).2 := by
  unfold BS.read; split
  · rename_i hk; exact .inr ⟨_, moved_look h (.inr hk) _ _⟩
  · exact .inl rfl
theorem mv_store (h : b.Fit M) (t k v : Int) : Mv b (b.store t k v) := by
  unfold BS.store; split
  · rename_i hk; exact .inr ⟨_, moved_lay h (.inl hk) _ _ _⟩
  · exact .inl rfl
theorem mv_write (h : b.Fit M) (t k v : Int) : Mv b (b.write t k v) := by
  unfold BS.write; split
  · rename_i hk; exact .inr ⟨_, moved_lay h (.inr hk) _ _ _⟩
  · exact .inl rfl
theorem mv_add (h : b.Fit M) (t k n : Int) : Mv b (b.add M t k n).2 := by
  unfold BS.add; split
  · rename_i hk; exact .inr ⟨_, moved_lay h (.inl hk) _ _ _⟩
  · exact .inl rfl
theorem mv_swap (h : b.Fit M) (t k o v : Int) : Mv b (b.swap t k o v).2 := by
  unfold BS.swap; split
  · rename_i hk
    split
    · exact .inr ⟨_, moved_lay h (.inl hk) _ _ _⟩
    · exact .inr ⟨_, moved_look h (.inl hk) _ _⟩
  · exact .inl rfl
theorem mv_get (h : b.Fit M) (t s : Int) : Mv b (b.get t s).2 := by
  unfold BS.get; split
  · rename_i hk; exact .inr ⟨_, moved_get h hk _⟩
  · exact .inl rfl
theorem mv_put (h : b.Fit M) (t s v : Int) : Mv b (b.put t s v) := by
  unfold BS.put; split
  · rename_i hk; exact .inr ⟨_, moved_put h hk _ _⟩
  · exact .inl rfl
theorem stepP_moves (h : b.Fit M) (t k c n o v : Int) : Mv b (stepP M b t k c n o v).2 := by
  unfold stepP
  split
  · exact mv_load h _ _
  · split
    · exact mv_store h _ _ _
    · split
      · exact mv_add h _ _ _
      · split
        · exact mv_swap h _ _ _ _
        · split
          · exact mv_read h _ _
          · split
            · exact mv_write h _ _ _
            · split
              · exact mv_get h _ _
              · split
                · exact mv_put h _ _ _
                · exact .inl rfl
end
/-- what the accesses ahead of the k-th left in a cell -/
def chainV (l : Lay) (log : List Acc) (c : Int) : Nat → Int
  | 0 => l.first c
  | k + 1 => match log[k]? with
    | some a => if a.cell = c then a.new else chainV l log c k
    | none => chainV l log c k
theorem chainV_next {l : Lay} {log : List Acc} {k : Nat} {a : Acc} (h : log[k]? = some a) (c : Int) : chainV l log c (k + 1) = if a.cell = c then a.new else chainV l log c k := by
  show (match log[k]? with | some a => if a.cell = c then a.new else chainV l log c k | none => chainV l log c k) = _
  rw [h]
theorem chainV_append (l : Lay) (log more : List Acc) (c : Int) : ∀ k, k ≤ log.length → chainV l (log ++ more) c k = chainV l log c k
  | 0, _ => rfl
  | k + 1, h => by
    have hk : k < log.length := h
    have h1 := List.getElem?_eq_getElem hk
    rw [chainV_next (log := log ++ more) (by rw [List.getElem?_append_left hk]; exact h1), chainV_next h1, chainV_append l log more c k (Nat.le_of_lt h)]
structure Chained (b : BS) : Prop where
  old : ∀ (i : Nat) (a : Acc), b.log[i]? = some a → a.old = chainV b.l b.log a.cell i ∧ 0 ≤ a.cell ∧ a.cell < b.l.cells
  cur : ∀ k, 0 ≤ k → k < b.l.cells → b.cur k = chainV b.l b.log k b.log.length
theorem Chained.step {b b' : BS} {a : Acc} (h : Chained b) (hm : Moved b b' a) : Chained b' := by
  obtain ⟨hl, hg, ho, hh, hc⟩ := hm
  refine ⟨fun i x hx => ?_, fun k h0 h1 => ?_⟩
  · rw [hg] at hx
    rw [hl, hg]
    by_cases hi : i < b.log.length
    · rw [List.getElem?_append_left hi] at hx
      obtain ⟨h2, h3⟩ := h.old i x hx
      exact ⟨by rw [chainV_append _ _ _ _ _ (Nat.le_of_lt hi)]; exact h2, h3⟩
    · have hie : i = b.log.length := by
        have := (List.getElem?_eq_some_iff.1 hx).1
        simp at this; omega
      subst hie
      obtain rfl : a = x := by simpa using hx
      exact ⟨by rw [chainV_append _ _ _ _ _ (Nat.le_refl _), ho]; exact h.cur _ hh.1 hh.2, hh⟩
  · rw [hl] at h1
    rw [hc k h0, hl, hg, List.length_append, List.length_singleton, chainV_next (log := b.log ++ [a]) (a := a) (by simp), chainV_append _ _ _ _ _ (Nat.le_refl _)]
    by_cases hk : k = a.cell
    · rw [if_pos hk, if_pos hk.symm]
    · rw [if_neg hk, if_neg (fun e => hk e.symm)]; exact h.cur k h0 h1
theorem Chained.new (c : Cf) (hc : Cap2 c.cap) : Chained (newBS (mkLay c)) := by
  refine ⟨fun i a ha => by simp [newBS] at ha, fun k h0 h1 => ?_⟩
  show _ = (mkLay c).first k
  have h1' : k < (mkLay c).cells := h1
  unfold BS.cur
  split
  · rename_i hs
    have hs' : k < (mkLay c).slots := hs
    have := newBS_at (mkLay c) k.toNat (by omega)
    unfold BS.at_
    rw [List.getD_eq_getElem?_getD, this]
    show (mkLay c).first ((k.toNat : Nat) : Int) = _
    rw [Int.toNat_of_nonneg h0]
  · rename_i hs
    have hs' : ¬ k < (mkLay c).slots := hs
    have h2 : (mkLay c).first k = 0 := by unfold Lay.first; rw [if_pos (by omega)]
    rw [h2]
    unfold BS.datum
    show u64I ((List.replicate _ (0 : Int)).getD _ 0) = 0
    rw [List.getD_eq_getElem?_getD, List.getElem?_replicate]
    split <;> rfl
end Go.Proofs.YtmjpdojecdnkjaaGreat
