/- Small lemmas of this project, over any program: quiet calls, draws, blocks known whole, owned rows, and ownership labels: 'Fr S γ γ' w w'': of what was there only blocks whose label meets S may have turned. -/
import Derived.WalkKit
import Derived.WalkSpells
import Derived.WalkLawsBesides
import Derived.Lib.Hide
import Derived.Deep.QuietTactic
import Derived.BigQuiet
import Derived.Maps.AppendAt
import Derived.Deep.AppendLies
import Derived.Deep.RegionHeld3
import Derived.Laws.EntriesVeiled
namespace Go.Proofs.YtnkmlopjinihiaaDoor
open Go.RowKit
set_option linter.unusedVariables false
section
variable {P : Program} {f : FuncId} {args : Array Value} {w : World} {a n : Nat} {v : Value}
theorem quiet_left (h : Calls P f args (w.drewN n) fun e w' => e = .returned v ∧ w.drewN n = w') : Calls P f args (w.drewN n) fun e w'' => e = .returned v ∧ ∃ m, w'' = w.drewN m :=
  h.mono fun _ _ ⟨he, hm⟩ => ⟨he, n, hm.symm⟩
theorem quiet_add_left (h : Calls P f args (w.drewN (a + n)) fun e w' => e = .returned v ∧ w.drewN (a + n) = w') : Calls P f args (w.drewN (a + n)) fun e w'' => e = .returned v ∧ ∃ m, w'' = w.drewN (a + m) :=
  h.mono fun _ _ ⟨he, hm⟩ => ⟨he, n, hm.symm⟩
end
theorem below_drewN {B : Nat} {a w : World} (h : Below B a w) (n : Nat) : Below B a (w.drewN n) := ⟨h.os, h.tape, h.output, h.size, h.block⟩

/-- What was there reads as before: two rules for the walk. -/
theorem bcell {W w1 : World} (hb : Below W.heap.size W w1) : (∀ b o, b < W.heap.size → w1.cell? ⟨b, o, none⟩ = W.cell? ⟨b, o, none⟩) ∧ (∀ b o, b < W.heap.size → w1.frozen? ⟨b, o, none⟩ = W.frozen? ⟨b, o, none⟩) :=
  ⟨fun b o h => hb.cell (p := ⟨b, o, none⟩) h, fun b o h => hb.frozen (p := ⟨b, o, none⟩) h⟩
theorem below_new {w w1 : World} {o : Obj} (hb : Below (w.alloc o).heap.size (w.alloc o) w1) : Below w.heap.size w w1 :=
  ((Below.refl _ _).alloc (Nat.le_refl _) o).trans (hb.mono (by simp))

/-! ### a block known whole -/
def Blk (w : World) (g : Nat) (t : TypeId) (cs : Array Value) : Prop := w.heap[g]? = some (.cells cs t (0, 0))
section
variable {w w' : World} {g : Nat} {t : TypeId} {cs : Array Value}
theorem Blk.lt (h : Blk w g t cs) : g < w.heap.size := by
  rcases Nat.lt_or_ge g w.heap.size with hlt | hge
  · exact hlt
  · unfold Blk at h; rw [Array.getElem?_eq_none hge] at h; cases h
theorem Blk.cell (h : Blk w g t cs) (i : Nat) : w.cell? ⟨g, i, none⟩ = cs[i]? := cell_of_row w g i cs t (0, 0) h
theorem Blk.frozen (h : Blk w g t cs) (i : Nat) : w.frozen? ⟨g, i, none⟩ = false := by
  unfold Blk at h
  simp [World.frozen?, h]
theorem Blk.new (w : World) (t : TypeId) (cs : Array Value) : Blk (w.alloc (.cells cs t)) w.heap.size t cs := heap_alloc_new w _
theorem Blk.drew (h : Blk w g t cs) : Blk w.drew g t cs := h
theorem Blk.drewN (h : Blk w g t cs) (n : Nat) : Blk (w.drewN n) g t cs := h
theorem Blk.alloc (h : Blk w g t cs) (o : Obj) : Blk (w.alloc o) g t cs := (Below.heap_alloc w o g h.lt).trans h
theorem Blk.set_ (h : Blk w g t cs) (i : Nat) (u : Value) : Blk (w.setCell ⟨g, i, none⟩ u) g t (cs.setIfInBounds i u) := by
  unfold Blk at h ⊢
  simp [World.setCell, Array.getElem?_modify, h]
theorem Blk.far (h : Blk w g t cs) {p : Addr} (hp : g ≠ p.block) (u : Value) : Blk (w.setCell p u) g t cs := (Below.heap_setCell w p u g hp).trans h
theorem Blk.below {B : Nat} (h : Blk w g t cs) (hb : Below B w w') (hg : g < B) : Blk w' g t cs := (hb.block g hg).trans h
theorem Blk.grown {row : Option Nat} (h : Blk w g t cs) (hb : w.grownBy w' row) (hg : some g ≠ row) : Blk w' g t cs := (hb.block g h.lt hg).trans h
theorem Blk.ne_ {g' : Nat} {t' : TypeId} {cs' : Array Value} (h : Blk w g t cs) (h' : Blk w g' t' cs') (hne : t ≠ t') : g ≠ g' := by
  rintro rfl
  unfold Blk at h h'
  rw [h] at h'
  injection h' with h'
  injection h' with _ ht
  exact hne ht
theorem own_blk_ne {base : Nat} {e : TypeId} {size n : Nat} {v : Value} {xs : List Value} (h : w.ownsRow base e size v n xs) (hg : Blk w g t cs) (hne : e ≠ t) : v.ownBlock ≠ some g := by
  rcases h.2 with ⟨rfl, _⟩ | ⟨g', cap, cur, rfl, _, hh, _⟩
  · simp [Value.ownBlock]
  · intro he
    have : g' = g := by simpa [Value.ownBlock] using he
    subst this
    exact Blk.ne_ (t := e) hh hg hne rfl
end

theorem grown_trans {a b c : World} {row : Option Nat} (h : a.grownBy b row) (k : b.grownBy c row) : a.grownBy c row :=
  ⟨k.os.trans h.os, k.tape.trans h.tape, k.output.trans h.output, Nat.le_trans h.size k.size, fun i hi hne => (k.block i (Nat.lt_of_lt_of_le hi h.size) hne).trans (h.block i hi hne)⟩
theorem grown_refl (w : World) (row : Option Nat) : w.grownBy w row := ⟨rfl, rfl, rfl, Nat.le_refl _, fun _ _ _ => rfl⟩
theorem grown_setCell (w : World) (g i : Nat) (u : Value) : w.grownBy (w.setCell ⟨g, i, none⟩ u) (some g) :=
  ⟨rfl, rfl, rfl, by simp [World.setCell], fun k hk hne => Below.heap_setCell w ⟨g, i, none⟩ u k (by intro e; exact hne (by rw [e]))⟩
theorem grown_drewN {a w : World} {row : Option Nat} (h : a.grownBy w row) (n : Nat) : a.grownBy (w.drewN n) row := ⟨h.os, h.tape, h.output, h.size, h.block⟩
theorem grown_alloc {a w : World} {row : Option Nat} (h : a.grownBy w row) (o : Obj) : a.grownBy (w.alloc o) row :=
  ⟨h.os, h.tape, h.output, Nat.le_trans h.size (by simp), fun i hi hne => (Below.heap_alloc w o i (Nat.lt_of_lt_of_le hi h.size)).trans (h.block i hi hne)⟩
theorem grown_of_below {a w : World} (h : Below a.heap.size a w) (row : Option Nat) : a.grownBy w row := ⟨h.os, h.tape, h.output, h.size, fun i hi _ => h.block i hi⟩

theorem blk_cells1 {w : World} {g : Nat} {t : TypeId} {a0 : Value} (h : Blk w g t #[a0]) : w.cell? ⟨g, 0, none⟩ = some a0 := h.cell 0
theorem blk_cells2 {w : World} {g : Nat} {t : TypeId} {a0 a1 : Value} (h : Blk w g t #[a0, a1]) : w.cell? ⟨g, 0, none⟩ = some a0 ∧ w.cell? ⟨g, 1, none⟩ = some a1 :=
  ⟨h.cell 0, h.cell 1⟩
theorem blk_cells3 {w : World} {g : Nat} {t : TypeId} {a0 a1 a2 : Value} (h : Blk w g t #[a0, a1, a2]) : w.cell? ⟨g, 0, none⟩ = some a0 ∧ w.cell? ⟨g, 1, none⟩ = some a1 ∧ w.cell? ⟨g, 2, none⟩ = some a2 :=
  ⟨h.cell 0, h.cell 1, h.cell 2⟩
theorem blk_cells4 {w : World} {g : Nat} {t : TypeId} {a0 a1 a2 a3 : Value} (h : Blk w g t #[a0, a1, a2, a3]) : w.cell? ⟨g, 0, none⟩ = some a0 ∧ w.cell? ⟨g, 1, none⟩ = some a1 ∧ w.cell? ⟨g, 2, none⟩ = some a2 ∧ w.cell? ⟨g, 3, none⟩ = some a3 :=
  ⟨h.cell 0, h.cell 1, h.cell 2, h.cell 3⟩
theorem blk_cells5 {w : World} {g : Nat} {t : TypeId} {a0 a1 a2 a3 a4 : Value} (h : Blk w g t #[a0, a1, a2, a3, a4]) : w.cell? ⟨g, 0, none⟩ = some a0 ∧ w.cell? ⟨g, 1, none⟩ = some a1 ∧ w.cell? ⟨g, 2, none⟩ = some a2 ∧ w.cell? ⟨g, 3, none⟩ = some a3 ∧ w.cell? ⟨g, 4, none⟩ = some a4 :=
  ⟨h.cell 0, h.cell 1, h.cell 2, h.cell 3, h.cell 4⟩
theorem blk_cells6 {w : World} {g : Nat} {t : TypeId} {a0 a1 a2 a3 a4 a5 : Value} (h : Blk w g t #[a0, a1, a2, a3, a4, a5]) : w.cell? ⟨g, 0, none⟩ = some a0 ∧ w.cell? ⟨g, 1, none⟩ = some a1 ∧ w.cell? ⟨g, 2, none⟩ = some a2 ∧ w.cell? ⟨g, 3, none⟩ = some a3 ∧ w.cell? ⟨g, 4, none⟩ = some a4 ∧ w.cell? ⟨g, 5, none⟩ = some a5 :=
  ⟨h.cell 0, h.cell 1, h.cell 2, h.cell 3, h.cell 4, h.cell 5⟩
theorem blk_cells11 {w : World} {g : Nat} {t : TypeId} {a0 a1 a2 a3 a4 a5 a6 a7 a8 a9 a10 : Value} (h : Blk w g t #[a0, a1, a2, a3, a4, a5, a6, a7, a8, a9, a10]) : w.cell? ⟨g, 0, none⟩ = some a0 ∧ w.cell? ⟨g, 1, none⟩ = some a1 ∧ w.cell? ⟨g, 2, none⟩ = some a2 ∧ w.cell? ⟨g, 3, none⟩ = some a3 ∧ w.cell? ⟨g, 4, none⟩ = some a4 ∧ w.cell? ⟨g, 5, none⟩ = some a5 ∧ w.cell? ⟨g, 6, none⟩ = some a6 ∧ w.cell? ⟨g, 7, none⟩ = some a7 ∧ w.cell? ⟨g, 8, none⟩ = some a8 ∧ w.cell? ⟨g, 9, none⟩ = some a9 ∧ w.cell? ⟨g, 10, none⟩ = some a10 :=
  ⟨h.cell 0, h.cell 1, h.cell 2, h.cell 3, h.cell 4, h.cell 5, h.cell 6, h.cell 7, h.cell 8, h.cell 9, h.cell 10⟩
theorem blk_cells14 {w : World} {g : Nat} {t : TypeId} {a0 a1 a2 a3 a4 a5 a6 a7 a8 a9 a10 a11 a12 a13 : Value} (h : Blk w g t #[a0, a1, a2, a3, a4, a5, a6, a7, a8, a9, a10, a11, a12, a13]) : w.cell? ⟨g, 0, none⟩ = some a0 ∧ w.cell? ⟨g, 1, none⟩ = some a1 ∧ w.cell? ⟨g, 2, none⟩ = some a2 ∧ w.cell? ⟨g, 3, none⟩ = some a3 ∧ w.cell? ⟨g, 4, none⟩ = some a4 ∧ w.cell? ⟨g, 5, none⟩ = some a5 ∧ w.cell? ⟨g, 6, none⟩ = some a6 ∧ w.cell? ⟨g, 7, none⟩ = some a7 ∧ w.cell? ⟨g, 8, none⟩ = some a8 ∧ w.cell? ⟨g, 9, none⟩ = some a9 ∧ w.cell? ⟨g, 10, none⟩ = some a10 ∧ w.cell? ⟨g, 11, none⟩ = some a11 ∧ w.cell? ⟨g, 12, none⟩ = some a12 ∧ w.cell? ⟨g, 13, none⟩ = some a13 :=
  ⟨h.cell 0, h.cell 1, h.cell 2, h.cell 3, h.cell 4, h.cell 5, h.cell 6, h.cell 7, h.cell 8, h.cell 9, h.cell 10, h.cell 11, h.cell 12, h.cell 13⟩
theorem blk_cells17 {w : World} {g : Nat} {t : TypeId} {a0 a1 a2 a3 a4 a5 a6 a7 a8 a9 a10 a11 a12 a13 a14 a15 a16 : Value} (h : Blk w g t #[a0, a1, a2, a3, a4, a5, a6, a7, a8, a9, a10, a11, a12, a13, a14, a15, a16]) : w.cell? ⟨g, 0, none⟩ = some a0 ∧ w.cell? ⟨g, 1, none⟩ = some a1 ∧ w.cell? ⟨g, 2, none⟩ = some a2 ∧ w.cell? ⟨g, 3, none⟩ = some a3 ∧ w.cell? ⟨g, 4, none⟩ = some a4 ∧ w.cell? ⟨g, 5, none⟩ = some a5 ∧ w.cell? ⟨g, 6, none⟩ = some a6 ∧ w.cell? ⟨g, 7, none⟩ = some a7 ∧ w.cell? ⟨g, 8, none⟩ = some a8 ∧ w.cell? ⟨g, 9, none⟩ = some a9 ∧ w.cell? ⟨g, 10, none⟩ = some a10 ∧ w.cell? ⟨g, 11, none⟩ = some a11 ∧ w.cell? ⟨g, 12, none⟩ = some a12 ∧ w.cell? ⟨g, 13, none⟩ = some a13 ∧ w.cell? ⟨g, 14, none⟩ = some a14 ∧ w.cell? ⟨g, 15, none⟩ = some a15 ∧ w.cell? ⟨g, 16, none⟩ = some a16 :=
  ⟨h.cell 0, h.cell 1, h.cell 2, h.cell 3, h.cell 4, h.cell 5, h.cell 6, h.cell 7, h.cell 8, h.cell 9, h.cell 10, h.cell 11, h.cell 12, h.cell 13, h.cell 14, h.cell 15, h.cell 16⟩

/-- the blocks of K are as they were -/
def Keeps (K : Nat → Prop) (w w' : World) : Prop := ∀ b, K b → w'.heap[b]? = w.heap[b]?
theorem Keeps.refl (K : Nat → Prop) (w : World) : Keeps K w w := fun _ _ => rfl
theorem Keeps.setCell {K : Nat → Prop} {a w : World} (h : Keeps K a w) {p : Addr} (hp : ¬ K p.block) (u : Value) : Keeps K a (w.setCell p u) :=
  fun b hb => (Below.heap_setCell w p u b (fun e => hp (e ▸ hb))).trans (h b hb)
theorem Keeps.alloc {K : Nat → Prop} {a w : World} (h : Keeps K a w) (hK : ∀ b, K b → b < w.heap.size) (o : Obj) : Keeps K a (w.alloc o) :=
  fun b hb => (Below.heap_alloc w o b (hK b hb)).trans (h b hb)
theorem Keeps.drew {K : Nat → Prop} {a w : World} (h : Keeps K a w) : Keeps K a w.drew := h
theorem Keeps.drewN {K : Nat → Prop} {a w : World} (h : Keeps K a w) (n : Nat) : Keeps K a (w.drewN n) := h
theorem Keeps.below {K : Nat → Prop} {B : Nat} {a b c : World} (h : Keeps K a b) (k : Below B b c) (hK : ∀ i, K i → i < B) : Keeps K a c := fun i hi => (k.block i (hK i hi)).trans (h i hi)

/-! ### lists in memory -/
/-- whole numbers at a slice's address -/
def IntsAt (w : World) (Bk : Nat → Prop) (A : Option Addr) (xs : List Int) : Prop :=
  ∀ i x, xs[i]? = some x → ∃ b o, A = some ⟨b, o, none⟩ ∧ Bk b ∧ w.cell? ⟨b, o + i, none⟩ = some (.int .i64 x)
/-- lists of whole numbers at a slice's address -/
def UpAt (w : World) (Bk : Nat → Prop) (A : Option Addr) (up : List (List Int)) : Prop :=
  ∀ i l, up[i]? = some l → ∃ b o A' c, A = some ⟨b, o, none⟩ ∧ Bk b ∧ w.cell? ⟨b, o + i, none⟩ = some (.slice A' l.length c) ∧ IntsAt w Bk A' l ∧ l.length ≤ c
theorem IntsAt.keep {w w' : World} {Bk : Nat → Prop} {A : Option Addr} {xs : List Int} (h : IntsAt w Bk A xs) (hk : ∀ b o v, Bk b → w.cell? ⟨b, o, none⟩ = some v → w'.cell? ⟨b, o, none⟩ = some v) : IntsAt w' Bk A xs := by
  intro i x hx
  obtain ⟨b, o, rfl, hb, hc⟩ := h i x hx
  exact ⟨b, o, rfl, hb, hk _ _ _ hb hc⟩
theorem UpAt.keep {w w' : World} {Bk : Nat → Prop} {A : Option Addr} {up : List (List Int)} (h : UpAt w Bk A up) (hk : ∀ b o v, Bk b → w.cell? ⟨b, o, none⟩ = some v → w'.cell? ⟨b, o, none⟩ = some v) : UpAt w' Bk A up := by
  intro i l hl
  obtain ⟨b, o, A', c, rfl, hb, hc, hI, hcap⟩ := h i l hl
  exact ⟨b, o, A', c, rfl, hb, hk _ _ _ hb hc, hI.keep hk, hcap⟩
theorem UpAt.grown {w w' : World} {Bk : Nat → Prop} {A : Option Addr} {up : List (List Int)} {row : Option Nat} (h : UpAt w Bk A up) (hg : w.grownBy w' row) (hne : ∀ b, Bk b → some b ≠ row) : UpAt w' Bk A up :=
  h.keep fun b o v hb hc => hg.cell hc (hne b hb)
theorem IntsAt.mono {w : World} {Bk Bk' : Nat → Prop} {A : Option Addr} {xs : List Int} (h : IntsAt w Bk A xs) (hk : ∀ b, Bk b → Bk' b) : IntsAt w Bk' A xs := by
  intro i x hx
  obtain ⟨b, o, rfl, hb, hc⟩ := h i x hx
  exact ⟨b, o, rfl, hk _ hb, hc⟩
theorem UpAt.mono {w : World} {Bk Bk' : Nat → Prop} {A : Option Addr} {up : List (List Int)} (h : UpAt w Bk A up) (hk : ∀ b, Bk b → Bk' b) : UpAt w Bk' A up := by
  intro i l hl
  obtain ⟨b, o, A', c, rfl, hb, hc, hI, hcap⟩ := h i l hl
  exact ⟨b, o, A', c, rfl, hk _ hb, hc, hI.mono hk, hcap⟩
theorem UpAt.below {w w' : World} {Bk : Nat → Prop} {A : Option Addr} {up : List (List Int)} {B : Nat} (h : UpAt w Bk A up) (hg : Below B w w') (hB : ∀ b, Bk b → b < B) : UpAt w' Bk A up :=
  h.keep fun b o v hb hc => (hg.cell (p := ⟨b, o, none⟩) (hB b hb)).trans hc
theorem IntsAt.below {w w' : World} {Bk : Nat → Prop} {A : Option Addr} {xs : List Int} {B : Nat} (h : IntsAt w Bk A xs) (hg : Below B w w') (hB : ∀ b, Bk b → b < B) : IntsAt w' Bk A xs :=
  h.keep fun b o v hb hc => (hg.cell (p := ⟨b, o, none⟩) (hB b hb)).trans hc

theorem UpAt.keeps {w w' : World} {Bk : Nat → Prop} {A : Option Addr} {up : List (List Int)} (h : UpAt w Bk A up) (hk : Keeps Bk w w') : UpAt w' Bk A up :=
  h.keep fun b o v hb hc => (World.cell?_of_block (a := ⟨b, o, none⟩) (hk b hb)).trans hc

/-! ### labels -/
structure Fr (S : Nat → Prop) (γ γ' : Nat → Nat) (w w' : World) : Prop where
  os : w'.os = w.os
  tape : w'.tape = w.tape
  output : w'.output = w.output
  size : w.heap.size ≤ w'.heap.size
  lab : ∀ b, b < w.heap.size → γ' b = γ b
  block : ∀ b, b < w.heap.size → ¬ S (γ b) → w'.heap[b]? = w.heap[b]?
def NoId : Nat → Prop := fun _ => False
def OneId (i : Nat) : Nat → Prop := fun j => j = i
def TwoId (i k : Nat) : Nat → Prop := fun j => j = i ∨ j = k
section
variable {S S' : Nat → Prop} {γ γ' γ'' : Nat → Nat} {w w' w'' : World}
theorem Fr.refl (S : Nat → Prop) (γ : Nat → Nat) (w : World) : Fr S γ γ w w := ⟨rfl, rfl, rfl, Nat.le_refl _, fun _ _ => rfl, fun _ _ _ => rfl⟩
theorem Fr.trans (h : Fr S γ γ' w w') (k : Fr S γ' γ'' w' w'') : Fr S γ γ'' w w'' :=
  ⟨k.os.trans h.os, k.tape.trans h.tape, k.output.trans h.output, Nat.le_trans h.size k.size,
   fun b hb => (k.lab b (Nat.lt_of_lt_of_le hb h.size)).trans (h.lab b hb),
   fun b hb hs => (k.block b (Nat.lt_of_lt_of_le hb h.size) (by rw [h.lab b hb]; exact hs)).trans (h.block b hb hs)⟩
theorem Fr.mono (h : Fr S γ γ' w w') (hs : ∀ i, S i → S' i) : Fr S' γ γ' w w' :=
  ⟨h.os, h.tape, h.output, h.size, h.lab, fun b hb hn => h.block b hb fun hh => hn (hs _ hh)⟩
theorem Fr.of_below (h : Below w.heap.size w w') (S : Nat → Prop) (γ : Nat → Nat) : Fr S γ γ w w' :=
  ⟨h.os, h.tape, h.output, h.size, fun _ _ => rfl, fun b hb _ => h.block b hb⟩
theorem Fr.below (h : Fr NoId γ γ' w w') : Below w.heap.size w w' := ⟨h.os, h.tape, h.output, h.size, fun b hb => h.block b hb (fun h => h)⟩
theorem Fr.drewN (h : Fr S γ γ' w w') (n : Nat) : Fr S γ γ' w (w'.drewN n) := ⟨h.os, h.tape, h.output, h.size, h.lab, h.block⟩
theorem Fr.drew (h : Fr S γ γ' w w') : Fr S γ γ' w w'.drew := ⟨h.os, h.tape, h.output, h.size, h.lab, h.block⟩
/-- What is new may bear whatever label. -/
theorem Fr.relabel (h : Fr S γ γ' w w') (g : Nat → Nat) : Fr S γ (fun b => if b < w.heap.size then γ b else g b) w w' :=
  ⟨h.os, h.tape, h.output, h.size, fun b hb => by simp [hb], h.block⟩
theorem Fr.alloc (h : Fr S γ γ' w w') (o : Obj) : Fr S γ γ' w (w'.alloc o) :=
  ⟨h.os, h.tape, h.output, Nat.le_trans h.size (by simp), h.lab, fun b hb hs => (Below.heap_alloc w' o b (Nat.lt_of_lt_of_le hb h.size)).trans (h.block b hb hs)⟩
theorem Fr.setCell (h : Fr S γ γ' w w') {p : Addr} (hp : w.heap.size ≤ p.block ∨ S (γ p.block)) (u : Value) : Fr S γ γ' w (w'.setCell p u) :=
  ⟨h.os, h.tape, h.output, by simpa [World.setCell] using h.size, h.lab, fun b hb hs => (Below.heap_setCell w' p u b (by
    rintro rfl
    rcases hp with hp | hp
    · omega
    · exact hs hp)).trans (h.block b hb hs)⟩
theorem Fr.grown (h : Fr S γ γ' w w') {row : Option Nat} (hg : w'.grownBy w'' row) (hr : ∀ k, row = some k → w.heap.size ≤ k ∨ S (γ k)) : Fr S γ γ' w w'' :=
  ⟨hg.os.trans h.os, hg.tape.trans h.tape, hg.output.trans h.output, Nat.le_trans h.size hg.size, h.lab, fun b hb hs =>
    (hg.block b (Nat.lt_of_lt_of_le hb h.size) (by
      intro he
      rcases hr b he.symm with hp | hp
      · omega
      · exact hs hp)).trans (h.block b hb hs)⟩
theorem Fr.block_ {g : Nat} {t : TypeId} {cs : Array Value} (h : Fr S γ γ' w w') (hb : Blk w g t cs) (hs : ¬ S (γ g)) : Blk w' g t cs := (h.block g hb.lt hs).trans hb
end

/-! ### rows with a label -/
def RowAt (w : World) (γ : Nat → Nat) (id : Nat) (e : TypeId) (size : Nat) (v : Value) (n : Nat) (xs : List Value) : Prop :=
  w.ownsRow 0 e size v n xs ∧ ∀ g, v.ownBlock = some g → γ g = id
section
variable {S : Nat → Prop} {γ γ' : Nat → Nat} {w w' : World} {id e size n : Nat} {v : Value} {xs : List Value}
theorem ownsRow_keep {base : Nat} (h : w.ownsRow base e size v n xs) (hk : ∀ g, v.ownBlock = some g → w'.heap[g]? = w.heap[g]?) : w'.ownsRow base e size v n xs := by
  refine ⟨h.1, ?_⟩
  rcases h.2 with hn | ⟨g, cap, cur, rfl, hb, hgg, rest⟩
  · exact .inl hn
  · exact .inr ⟨g, cap, cur, rfl, hb, (hk g rfl).trans hgg, rest⟩
theorem RowAt.fr (h : RowAt w γ id e size v n xs) (hf : Fr S γ γ' w w') (hs : ¬ S id) : RowAt w' γ' id e size v n xs := by
  have hlt := h.1.lt
  exact ⟨ownsRow_keep h.1 fun g hg => hf.block g (hlt g hg).2 (by rw [h.2 g hg]; exact hs), fun g hg => (hf.lab g (hlt g hg).2).trans (h.2 g hg)⟩
theorem RowAt.alloc (h : RowAt w γ id e size v n xs) (o : Obj) : RowAt (w.alloc o) γ id e size v n xs := ⟨h.1.alloc o, h.2⟩
theorem RowAt.drewN (h : RowAt w γ id e size v n xs) (k : Nat) : RowAt (w.drewN k) γ id e size v n xs := h
theorem RowAt.lab (h : RowAt w γ id e size v n xs) (hl : ∀ b, b < w.heap.size → γ' b = γ b) : RowAt w γ' id e size v n xs :=
  ⟨h.1, fun g hg => (hl g (h.1.lt g hg).2).trans (h.2 g hg)⟩
end
end Go.Proofs.YtnkmlopjinihiaaDoor
