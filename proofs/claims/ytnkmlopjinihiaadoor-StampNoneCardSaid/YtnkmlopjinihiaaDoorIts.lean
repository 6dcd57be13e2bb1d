/- Several things in memory at once, each with a label of its own: 'Its w0 γ0 S L w γ': since (w0, γ0) only blocks whose label meets S may have turned, and the things of L lie there. No program is walked. -/
import Derived.Test.YtnkmlopjinihiaaDoorFrame
namespace Go.Proofs.YtnkmlopjinihiaaDoor
open Go.RowKit
set_option linter.unusedVariables false
set_option linter.unusedSimpArgs false

/-- the blocks labelled id are as they were, and labelled so still -/
structure Kept (id : Nat) (w w' : World) (γ γ' : Nat → Nat) : Prop where
  size : w.heap.size ≤ w'.heap.size
  block : ∀ b, b < w.heap.size → γ b = id → γ' b = id ∧ w'.heap[b]? = w.heap[b]?
theorem Kept.of_fr {S : Nat → Prop} {w w' : World} {γ γ' : Nat → Nat} (h : Fr S γ γ' w w') {id : Nat} (hs : ¬ S id) : Kept id w w' γ γ' :=
  ⟨h.size, fun b hb hg => ⟨(h.lab b hb).trans hg, h.block b hb (by rw [hg]; exact hs)⟩⟩
structure It where
  id : Nat
  P : World → (Nat → Nat) → Prop
  mono : ∀ {w w' : World} {γ γ' : Nat → Nat}, P w γ → Kept id w w' γ γ' → P w' γ'
theorem RowAt.keptI {id e size n : Nat} {v : Value} {xs : List Value} {w w' : World} {γ γ' : Nat → Nat} (h : RowAt w γ id e size v n xs) (hk : Kept id w w' γ γ') : RowAt w' γ' id e size v n xs :=
  ⟨ownsRow_keep h.1 fun g hg => (hk.block g (h.1.lt g hg).2 (h.2 g hg)).2, fun g hg => (hk.block g (h.1.lt g hg).2 (h.2 g hg)).1⟩
theorem Blk.keptI {g : Nat} {t : TypeId} {cs : Array Value} {id : Nat} {w w' : World} {γ γ' : Nat → Nat} (h : Blk w g t cs) (hl : γ g = id) (hk : Kept id w w' γ γ') : Blk w' g t cs ∧ γ' g = id :=
  ⟨(hk.block g h.lt hl).2.trans h, (hk.block g h.lt hl).1⟩
theorem BoardAt.keptI {tB tW tA : TypeId} {kd : IntKind} {id p : Nat} {b : BS} {w w' : World} {γ γ' : Nat → Nat} (h : BoardAt tB tW tA kd w γ id p b) (hk : Kept id w w' γ γ') : BoardAt tB tW tA kd w' γ' id p b := by
  obtain ⟨cv, dv, lv, h1, h2, h3, h4, h5⟩ := h
  have hb := h1.keptI h2 hk
  exact ⟨cv, dv, lv, hb.1, hb.2, h3.keptI hk, h4.keptI hk, h5.keptI hk⟩
/-- a board -/
def itB (tB tW tA : TypeId) (kd : IntKind) (id p : Nat) (b : BS) : It := ⟨id, fun w γ => BoardAt tB tW tA kd w γ id p b, fun h hk => h.keptI hk⟩
/-- a block known whole -/
def itK (id g : Nat) (t : TypeId) (cs : Array Value) : It := ⟨id, fun w γ => Blk w g t cs ∧ γ g = id, fun h hk => h.1.keptI h.2 hk⟩

structure Its (w0 : World) (γ0 : Nat → Nat) (S : Nat → Prop) (L : List It) (w : World) (γ : Nat → Nat) : Prop where
  os : w.os = w0.os
  tape : w.tape = w0.tape
  output : w.output = w0.output
  size : w0.heap.size ≤ w.heap.size
  block : ∀ b, b < w0.heap.size → ¬ S (γ0 b) → w.heap[b]? = w0.heap[b]? ∧ γ b = 0
  lab : ∀ b, b < w0.heap.size → S (γ0 b) → γ b = γ0 b
  all : ∀ x ∈ L, x.P w γ
  ids : ∀ x ∈ L, x.id ≠ 0
  nodup : (L.map (·.id)).Nodup
section
variable {w0 w w' : World} {γ0 γ γ' : Nat → Nat} {S T : Nat → Prop} {L : List It} {a b c d e x y z : It}
theorem Its.old (h : Its w0 γ0 S L w γ) {T : Nat → Prop} (hf : Fr T γ γ' w w') (h0 : ¬ T 0) : w'.os = w0.os ∧ w'.tape = w0.tape ∧ w'.output = w0.output ∧ w0.heap.size ≤ w'.heap.size ∧ (∀ b, b < w0.heap.size → ¬ S (γ0 b) → w'.heap[b]? = w0.heap[b]? ∧ γ' b = 0) ∧ (∀ b, b < w0.heap.size → S (γ0 b) → γ' b = γ0 b) :=
  ⟨hf.os.trans h.os, hf.tape.trans h.tape, hf.output.trans h.output, Nat.le_trans h.size hf.size,
   fun b hb hs => ⟨(hf.block b (Nat.lt_of_lt_of_le hb h.size) (by rw [(h.block b hb hs).2]; exact h0)).trans (h.block b hb hs).1, (hf.lab b (Nat.lt_of_lt_of_le hb h.size)).trans (h.block b hb hs).2⟩,
   fun b hb hs => (hf.lab b (Nat.lt_of_lt_of_le hb h.size)).trans (h.lab b hb hs)⟩
/-- a frame T: the things whose label does not meet it stay -/
theorem Its.pass (h : Its w0 γ0 S L w γ) {T : Nat → Prop} (hf : Fr T γ γ' w w') (h0 : ¬ T 0) {L' : List It} (hid : L'.map (·.id) = L.map (·.id)) (hx : ∀ x ∈ L', (¬ T x.id ∧ x ∈ L) ∨ x.P w' γ') : Its w0 γ0 S L' w' γ' := by
  obtain ⟨h1, h2, h3, h4, h5, h6⟩ := h.old hf h0
  refine ⟨h1, h2, h3, h4, h5, h6, fun x hm => ?_, fun x hm => ?_, hid ▸ h.nodup⟩
  · rcases hx x hm with ⟨hn, hl⟩ | hp
    · exact x.mono (h.all x hl) (Kept.of_fr hf hn)
    · exact hp
  · have : x.id ∈ L.map (·.id) := hid ▸ List.mem_map_of_mem hm
    obtain ⟨y, hy, he⟩ := List.mem_map.1 this
    rw [← he]
    exact h.ids y hy
theorem Its.below (h : Its w0 γ0 S L w γ) (hb : Below w.heap.size w w') : Its w0 γ0 S L w' γ :=
  h.pass (T := NoId) (Fr.of_below hb NoId γ) (fun h => h) rfl fun x hx => .inl ⟨fun h => h, hx⟩
theorem Its.drewN (h : Its w0 γ0 S L w γ) (n : Nat) : Its w0 γ0 S L (w.drewN n) γ := h.below (below_drewN (Below.refl _ _) n)
theorem Its.alloc (h : Its w0 γ0 S L w γ) (o : Obj) : Its w0 γ0 S L (w.alloc o) γ := h.below ((Below.refl _ _).alloc (Nat.le_refl _) o)
theorem Its.fr0 (h : Its w0 γ0 S L w γ) (hf : Fr NoId γ γ' w w') : Its w0 γ0 S L w' γ' := h.pass hf (fun h => h) rfl fun x hx => .inl ⟨fun h => h, hx⟩
theorem Its.get (h : Its w0 γ0 S L w γ) (k : Nat) (x : It) (hx : L[k]? = some x) : x.P w γ := h.all x (List.mem_of_getElem? hx)
theorem Its.g0 (h : Its w0 γ0 S (x :: L) w γ) : x.P w γ := h.all x (by simp)
theorem Its.g1 (h : Its w0 γ0 S (a :: x :: L) w γ) : x.P w γ := h.all x (by simp)
theorem Its.g2 (h : Its w0 γ0 S (a :: b :: x :: L) w γ) : x.P w γ := h.all x (by simp)
theorem Its.g3 (h : Its w0 γ0 S (a :: b :: c :: x :: L) w γ) : x.P w γ := h.all x (by simp)
theorem Its.g4 (h : Its w0 γ0 S (a :: b :: c :: d :: x :: L) w γ) : x.P w γ := h.all x (by simp)
theorem Its.g5 (h : Its w0 γ0 S (a :: b :: c :: d :: e :: x :: L) w γ) : x.P w γ := h.all x (by simp)
theorem Its.nid (h : Its w0 γ0 S L w γ) {k m : Nat} {x y : It} (hk : L[k]? = some x) (hm : L[m]? = some y) (hne : k ≠ m) : x.id ≠ y.id := by
  intro he
  have h1 : (L.map (·.id))[k]? = some x.id := by rw [List.getElem?_map, hk]; rfl
  have h2 : (L.map (·.id))[m]? = some y.id := by rw [List.getElem?_map, hm]; rfl
  rw [he] at h1
  exact hne ((List.getElem?_inj (List.getElem?_eq_some_iff.1 h1).1 h.nodup).1 (h1.trans h2.symm))
/-- one thing turns -/
theorem Its.step (h : Its w0 γ0 S L w γ) (k : Nat) (x y : It) (hx : L[k]? = some x) (hid : y.id = x.id) (hf : Fr (OneId x.id) γ γ' w w') (hp : y.P w' γ') : Its w0 γ0 S (L.set k y) w' γ' := by
  have hk : k < L.length := (List.getElem?_eq_some_iff.1 hx).1
  refine h.pass hf (fun e => h.ids x (List.mem_of_getElem? hx) e.symm) ?_ ?_
  · rw [List.map_set, hid]
    apply List.ext_getElem?
    intro m
    rw [List.getElem?_set]
    split
    · rename_i hm
      subst hm
      rw [if_pos (by simpa using hk), List.getElem?_map, hx]; rfl
    · rfl
  · intro z hz
    obtain ⟨m, hm⟩ := List.getElem?_of_mem hz
    rw [List.getElem?_set] at hm
    by_cases hkm : k = m
    · subst hkm
      rw [if_pos rfl, if_pos hk] at hm
      cases hm
      exact .inr hp
    · rw [if_neg hkm] at hm
      exact .inl ⟨fun e => h.nid hx hm hkm e.symm, List.mem_of_getElem? hm⟩
theorem Its.s0 (h : Its w0 γ0 S (x :: L) w γ) (hid : y.id = x.id) (hf : Fr (OneId x.id) γ γ' w w') (hp : y.P w' γ') : Its w0 γ0 S (y :: L) w' γ' := h.step 0 x y rfl hid hf hp
theorem Its.s1 (h : Its w0 γ0 S (a :: x :: L) w γ) (hid : y.id = x.id) (hf : Fr (OneId x.id) γ γ' w w') (hp : y.P w' γ') : Its w0 γ0 S (a :: y :: L) w' γ' := h.step 1 x y rfl hid hf hp
theorem Its.s2 (h : Its w0 γ0 S (a :: b :: x :: L) w γ) (hid : y.id = x.id) (hf : Fr (OneId x.id) γ γ' w w') (hp : y.P w' γ') : Its w0 γ0 S (a :: b :: y :: L) w' γ' := h.step 2 x y rfl hid hf hp
theorem Its.s3 (h : Its w0 γ0 S (a :: b :: c :: x :: L) w γ) (hid : y.id = x.id) (hf : Fr (OneId x.id) γ γ' w w') (hp : y.P w' γ') : Its w0 γ0 S (a :: b :: c :: y :: L) w' γ' := h.step 3 x y rfl hid hf hp
theorem Its.s4 (h : Its w0 γ0 S (a :: b :: c :: d :: x :: L) w γ) (hid : y.id = x.id) (hf : Fr (OneId x.id) γ γ' w w') (hp : y.P w' γ') : Its w0 γ0 S (a :: b :: c :: d :: y :: L) w' γ' := h.step 4 x y rfl hid hf hp
theorem Its.s5 (h : Its w0 γ0 S (a :: b :: c :: d :: e :: x :: L) w γ) (hid : y.id = x.id) (hf : Fr (OneId x.id) γ γ' w w') (hp : y.P w' γ') : Its w0 γ0 S (a :: b :: c :: d :: e :: y :: L) w' γ' := h.step 5 x y rfl hid hf hp
/-- two things turn -/
theorem Its.step2 (h : Its w0 γ0 S L w γ) (k m : Nat) (x y x' y' : It) (hne : k ≠ m) (hx : L[k]? = some x) (hy : L[m]? = some y) (hid : x'.id = x.id) (hid' : y'.id = y.id) (hf : Fr (TwoId x.id y.id) γ γ' w w') (hp : x'.P w' γ') (hp' : y'.P w' γ') : Its w0 γ0 S ((L.set k x').set m y') w' γ' := by
  have hk : k < L.length := (List.getElem?_eq_some_iff.1 hx).1
  have hm : m < L.length := (List.getElem?_eq_some_iff.1 hy).1
  refine h.pass hf (fun e => e.elim (fun e => h.ids x (List.mem_of_getElem? hx) e.symm) (fun e => h.ids y (List.mem_of_getElem? hy) e.symm)) ?_ ?_
  · apply List.ext_getElem?
    intro j
    simp only [List.getElem?_map, List.getElem?_set, List.length_set]
    by_cases hj : m = j
    · subst hj
      rw [if_pos rfl, if_pos hm, hy]; simp [hid']
    · rw [if_neg hj]
      by_cases hj2 : k = j
      · subst hj2
        rw [if_pos rfl, if_pos hk, hx]; simp [hid]
      · rw [if_neg hj2]
  · intro z hz
    obtain ⟨j, hj⟩ := List.getElem?_of_mem hz
    simp only [List.getElem?_set, List.length_set] at hj
    by_cases hmj : m = j
    · subst hmj
      rw [if_pos rfl, if_pos hm] at hj
      cases hj
      exact .inr hp'
    · rw [if_neg hmj] at hj
      by_cases hkj : k = j
      · subst hkj
        rw [if_pos rfl, if_pos hk] at hj
        cases hj
        exact .inr hp
      · rw [if_neg hkj] at hj
        exact .inl ⟨fun e => e.elim (fun e => h.nid hx hj hkj e.symm) (fun e => h.nid hy hj hmj e.symm), List.mem_of_getElem? hj⟩
/-- a new thing ahead of the others -/
theorem Its.add (h : Its w0 γ0 S L w γ) (hf : Fr NoId γ γ' w w') (hp : y.P w' γ') (h0 : y.id ≠ 0) (hn : ∀ x ∈ L, x.id ≠ y.id) : Its w0 γ0 S (L ++ [y]) w' γ' := by
  have h1 := h.fr0 hf
  refine ⟨h1.os, h1.tape, h1.output, h1.size, h1.block, h1.lab, ?_, ?_, ?_⟩
  · intro x hx
    rcases List.mem_append.1 hx with hx | hx
    · exact h1.all x hx
    · rw [List.mem_singleton.1 hx]; exact hp
  · intro x hx
    rcases List.mem_append.1 hx with hx | hx
    · exact h1.ids x hx
    · rw [List.mem_singleton.1 hx]; exact h0
  · rw [List.map_append]
    refine List.nodup_append.2 ⟨h.nodup, by simp, ?_⟩
    intro i hi j hj
    obtain ⟨x, hx, rfl⟩ := List.mem_map.1 hi
    obtain rfl : j = y.id := by simpa using hj
    exact hn x hx
/-- a new block -/
theorem Its.box (h : Its w0 γ0 S L w γ) (id : Nat) (t : TypeId) (cs : Array Value) (h0 : id ≠ 0) (hn : ∀ x ∈ L, x.id ≠ id) : Its w0 γ0 S (L ++ [itK id w.heap.size t cs]) (w.alloc (.cells cs t)) (Lab w γ id) := by
  have hf : Fr NoId γ (Lab w γ id) w (w.alloc (.cells cs t)) := ((Fr.refl _ _ _).alloc _).relabel (fun _ => id)
  refine h.add (y := itK id w.heap.size t cs) hf ⟨Blk.new _ _ _, ?_⟩ h0 hn
  show Lab w γ id w.heap.size = id
  unfold Lab; rw [if_neg (by omega)]
/-- a block known whole: a cell of it is written -/
theorem Its.cell (h : Its w0 γ0 S L w γ) (k : Nat) (id g : Nat) (t : TypeId) (cs cs' : Array Value) (hx : L[k]? = some (itK id g t cs)) (i : Nat) (u : Value) (hc : cs.setIfInBounds i u = cs') : Its w0 γ0 S (L.set k (itK id g t cs')) (w.setCell ⟨g, i, none⟩ u) γ := by
  subst hc
  have hb : Blk w g t cs ∧ γ g = id := h.get k _ hx
  exact h.step k (itK id g t cs) (itK id g t _) hx rfl ((Fr.refl _ _ _).setCell (p := ⟨g, i, none⟩) (.inr hb.2) u) ⟨hb.1.set_ i u, hb.2⟩
theorem Its.forget {L' : List It} (h : Its w0 γ0 S L w γ) (hs : ∀ x ∈ L', x ∈ L) (hn : (L'.map (·.id)).Nodup) : Its w0 γ0 S L' w γ :=
  ⟨h.os, h.tape, h.output, h.size, h.block, h.lab, fun x hx => h.all x (hs x hx), fun x hx => h.ids x (hs x hx), hn⟩
theorem Its.bel (h : Its w0 γ0 NoId L w γ) : Below w0.heap.size w0 w := ⟨h.os, h.tape, h.output, h.size, fun b hb => (h.block b hb (fun h => h)).1⟩
theorem Its.start (w0 : World) (γ0 : Nat → Nat) (S : Nat → Prop) (L : List It) (hall : ∀ x ∈ L, x.P w0 γ0) (hS : ∀ x ∈ L, S x.id) (ids : ∀ x ∈ L, x.id ≠ 0) (nodup : (L.map (·.id)).Nodup) : ∃ γ, Its w0 γ0 S L w0 γ := by
  classical
  refine ⟨fun b => if S (γ0 b) then γ0 b else 0, rfl, rfl, rfl, Nat.le_refl _, fun b hb hs => ⟨rfl, if_neg hs⟩, fun b hb hs => if_pos hs, fun x hx => ?_, ids, nodup⟩
  refine x.mono (hall x hx) ⟨Nat.le_refl _, fun b hb he => ⟨?_, rfl⟩⟩
  show (if S (γ0 b) then γ0 b else 0) = x.id
  rw [if_pos (by rw [he]; exact hS x hx), he]
theorem Its.begin (w0 : World) : Its w0 (fun _ => 0) NoId [] w0 (fun _ => 0) :=
  ⟨rfl, rfl, rfl, Nat.le_refl _, fun b hb hs => ⟨rfl, rfl⟩, fun b hb hs => rfl, fun x hx => (by simp at hx), fun x hx => (by simp at hx), by simp⟩
/-- what a call that began with (w0, γ0) ends with -/
theorem Its.fin (h : Its w0 γ0 S L w γ) : ∃ γ', Fr S γ0 γ' w0 w ∧ ∀ x ∈ L, x.P w γ' := by
  classical
  refine ⟨fun b => if b < w0.heap.size then γ0 b else γ b, ⟨h.os, h.tape, h.output, h.size, fun b hb => if_pos hb, fun b hb hs => (h.block b hb hs).1⟩, fun x hx => ?_⟩
  refine x.mono (h.all x hx) ⟨Nat.le_refl _, fun b hb he => ⟨?_, rfl⟩⟩
  show (if b < w0.heap.size then γ0 b else γ b) = x.id
  by_cases hl : b < w0.heap.size
  · rw [if_pos hl]
    by_cases hs : S (γ0 b)
    · rw [← he, h.lab b hl hs]
    · exact absurd ((h.block b hl hs).2.symm.trans he) (fun e => h.ids x hx e.symm)
  · rw [if_neg hl, he]
end
/-- eleven cells are written, one behind the other -/
theorem Its.put11 {w0 w : World} {γ0 γ : Nat → Nat} {S : Nat → Prop} {L : List It} (h : Its w0 γ0 S L w γ) (k : Nat) (id g : Nat) (t : TypeId) (cs : Array Value) (hs : cs.size = 11) (hx : L[k]? = some (itK id g t cs)) (u0 u1 u2 u3 u4 u5 u6 u7 u8 u9 u10 : Value) :
    Its w0 γ0 S (L.set k (itK id g t #[u0, u1, u2, u3, u4, u5, u6, u7, u8, u9, u10])) (((((((((((w.setCell ⟨g, 0, none⟩ u0).setCell ⟨g, 1, none⟩ u1).setCell ⟨g, 2, none⟩ u2).setCell ⟨g, 3, none⟩ u3).setCell ⟨g, 4, none⟩ u4).setCell ⟨g, 5, none⟩ u5).setCell ⟨g, 6, none⟩ u6).setCell ⟨g, 7, none⟩ u7).setCell ⟨g, 8, none⟩ u8).setCell ⟨g, 9, none⟩ u9).setCell ⟨g, 10, none⟩ u10) γ := by
  have hb : Blk w g t cs ∧ γ g = id := h.get k _ hx
  obtain ⟨l⟩ := cs
  match l, hs with
  | [c0, c1, c2, c3, c4, c5, c6, c7, c8, c9, c10], _ =>
    refine h.step k (itK id g t _) (itK id g t _) hx rfl (γ' := γ) ?_ ⟨?_, hb.2⟩
    · exact (((((((((((Fr.refl (OneId id) γ w).setCell (p := ⟨g, 0, none⟩) (.inr hb.2) u0).setCell (p := ⟨g, 1, none⟩) (.inr hb.2) u1).setCell (p := ⟨g, 2, none⟩) (.inr hb.2) u2).setCell (p := ⟨g, 3, none⟩) (.inr hb.2) u3).setCell (p := ⟨g, 4, none⟩) (.inr hb.2) u4).setCell (p := ⟨g, 5, none⟩) (.inr hb.2) u5).setCell (p := ⟨g, 6, none⟩) (.inr hb.2) u6).setCell (p := ⟨g, 7, none⟩) (.inr hb.2) u7).setCell (p := ⟨g, 8, none⟩) (.inr hb.2) u8).setCell (p := ⟨g, 9, none⟩) (.inr hb.2) u9).setCell (p := ⟨g, 10, none⟩) (.inr hb.2) u10
    · have b0 : Blk _ g t #[u0, c1, c2, c3, c4, c5, c6, c7, c8, c9, c10] := hb.1.set_ 0 u0
      have b1 : Blk _ g t #[u0, u1, c2, c3, c4, c5, c6, c7, c8, c9, c10] := b0.set_ 1 u1
      have b2 : Blk _ g t #[u0, u1, u2, c3, c4, c5, c6, c7, c8, c9, c10] := b1.set_ 2 u2
      have b3 : Blk _ g t #[u0, u1, u2, u3, c4, c5, c6, c7, c8, c9, c10] := b2.set_ 3 u3
      have b4 : Blk _ g t #[u0, u1, u2, u3, u4, c5, c6, c7, c8, c9, c10] := b3.set_ 4 u4
      have b5 : Blk _ g t #[u0, u1, u2, u3, u4, u5, c6, c7, c8, c9, c10] := b4.set_ 5 u5
      have b6 : Blk _ g t #[u0, u1, u2, u3, u4, u5, u6, c7, c8, c9, c10] := b5.set_ 6 u6
      have b7 : Blk _ g t #[u0, u1, u2, u3, u4, u5, u6, u7, c8, c9, c10] := b6.set_ 7 u7
      have b8 : Blk _ g t #[u0, u1, u2, u3, u4, u5, u6, u7, u8, c9, c10] := b7.set_ 8 u8
      have b9 : Blk _ g t #[u0, u1, u2, u3, u4, u5, u6, u7, u8, u9, c10] := b8.set_ 9 u9
      have b10 : Blk _ g t #[u0, u1, u2, u3, u4, u5, u6, u7, u8, u9, u10] := b9.set_ 10 u10
      exact b10
/-- a board and one thread's registers, out of the things -/
def bfI (T : TypeId) (id fid : Nat) (p F : Nat) (h : fid ≠ id) : BFP := { T := T, id := id, fid := fid, p := p, fb := F, o := 0, t := 0, pre := [], post := [], fs := [{}], hne := h, ho := rfl, ht := by decide }
theorem bfI_at {tB tW tA T : TypeId} {kd : IntKind} {id fid p F : Nat} {hne : fid ≠ id} {w : World} {γ : Nat → Nat} {b : BS} {f : FrS} (hB : BoardAt tB tW tA kd w γ id p b) (hF : Blk w F T (frsCs kd [] [f] []) ∧ γ F = fid) :
    BFAt tB tW tA kd (bfI T id fid p F hne) w γ w γ b f := ⟨hB, hF.1, hF.2, Fr.refl _ _ _⟩
/-- what a call that turns board and registers does to the things: the board is the first, the registers the k-th -/
theorem Its.bf {tB tW tA T : TypeId} {kd : IntKind} {id fid p F : Nat} {hne : fid ≠ id} {w0 w w' : World} {γ0 γ : Nat → Nat} {S : Nat → Prop} {L : List It} {b b' : BS} {f f' : FrS} {v : Value} {e : Ending}
    (h : Its w0 γ0 S L w γ) (k m : Nat) (hkm : k ≠ m) (hx : L[k]? = some (itB tB tW tA kd id p b)) (hy : L[m]? = some (itK fid F T (frsCs kd [] [f] []))) (hq : BFEnd tB tW tA kd (bfI T id fid p F hne) w γ v b' f' e w') :
    e = .returned v ∧ ∃ γ', Its w0 γ0 S ((L.set k (itB tB tW tA kd id p b')).set m (itK fid F T (frsCs kd [] [f'] []))) w' γ' := by
  obtain ⟨he, γ', hb, hf, hl, hfr⟩ := hq
  exact ⟨he, γ', h.step2 k m _ _ (itB tB tW tA kd id p b') (itK fid F T (frsCs kd [] [f'] [])) hkm hx hy rfl rfl hfr hb ⟨hf, hl⟩⟩
end Go.Proofs.YtnkmlopjinihiaaDoor
