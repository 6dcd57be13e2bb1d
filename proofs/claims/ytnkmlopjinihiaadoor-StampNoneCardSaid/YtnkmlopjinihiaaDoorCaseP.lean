/- A case's configuration: capacity, lists without names. No program is walked but a type's facts. -/
import Derived.Test.YtnkmlopjinihiaaDoorEvP
import Derived.Test.YtnkmlopjinihiaaDoorOwn
import Derived.Test.YtnkmlopjinihiaaDoorConfP
import Derived.Test.YtnkmlopjinihiaaDoorProg
namespace Go.Proofs.YtnkmlopjinihiaaDoor
open Go.RowKit
set_option linter.unusedVariables false
set_option linter.unusedSimpArgs false

theorem caseinf : (Tryd.prog.info? 58).map (fun i => (i.zero, i.size, i.bytes)) = some (some (.slice none 0 0), 1, 24) := by kernel_rfl
def capC (lg : Int) : Int := if lg % 4 = 0 then 2 else if lg % 4 = 1 then 4 else if lg % 4 = 2 then 8 else 16
theorem capC_w {lg : Int} (h : 0 ≤ lg ∧ lg ≤ 255) : wrap64 (2 * 2 ^ (lg % 4).toNat) = capC lg := by
  have h4 : lg % 4 = 0 ∨ lg % 4 = 1 ∨ lg % 4 = 2 ∨ lg % 4 = 3 := by omega
  unfold capC
  rcases h4 with h | h | h | h <;> rw [h] <;> decide +kernel
theorem capC_in (lg : Int) : capC lg = 2 ∨ capC lg = 4 ∨ capC lg = 8 ∨ capC lg = 16 := by unfold capC; split <;> (try split) <;> (try split) <;> simp
theorem Blk.thd (w : World) (a b : Obj) (t : TypeId) (cs : Array Value) : Blk (((w.alloc a).alloc b).alloc (.cells cs t)) (w.heap.size + 1 + 1) t cs := by
  have h := Blk.new ((w.alloc a).alloc b) t cs
  rw [World.size_alloc, World.size_alloc] at h
  exact h
/-- a case's configuration, all of it new: as many lists without names as it has consumers -/
def CaseEnd (variant width cap producers st rt : Int) (w : World) (e : Ending) (w' : World) : Prop :=
  ∃ A c, e = .returned (.agg #[.int .i64 variant, .int .i64 width, .int .i64 cap, .int .i64 producers, .int .u64 st, .slice A (rt % 3 + 1).toNat c]) ∧ UpAt w' (fun b => w.heap.size ≤ b ∧ b < w'.heap.size) A (List.replicate (rt % 3 + 1).toNat []) ∧ (rt % 3 + 1).toNat ≤ c ∧ Below w.heap.size w w'
theorem upAt_nils {w : World} {base k c : Nat} {A : Option Addr} {e : TypeId} (h : w.ownsRow base e 1 (.slice A k c) k (List.replicate k (.slice none 0 0))) : UpAt w (fun b => base ≤ b ∧ b < w.heap.size ∧ (Value.slice A k c).ownBlock = some b) A (List.replicate k []) := by
  intro i l hl
  obtain ⟨hlt, hle⟩ := List.getElem?_eq_some_iff.1 hl
  rw [List.length_replicate] at hlt
  obtain ⟨g, cap, he, _, hg⟩ := h.form (by omega)
  cases he
  have hll : l = [] := by rw [← hle]; simp
  subst hll
  refine ⟨g, 0, none, 0, rfl, ⟨(h.lt g rfl).1, hg, rfl⟩, ?_, fun j x hx => by simp at hx, Nat.le_refl _⟩
  have := h.cellAt i (by omega)
  rw [Nat.zero_add]
  rw [this]
  simp [List.getElem?_replicate, hlt]
theorem edge_nils {n a b : Nat} (h : Edge (List.replicate n []) a b) : False := by
  obtain ⟨l, hl, hb⟩ := h
  have : l = [] := by obtain ⟨_, rfl⟩ := List.getElem?_eq_some_iff.1 hl; simp
  subst this
  simp at hb
theorem upOk_nils {n : Nat} (h : 1 ≤ n ∧ n ≤ 6) : UpOk (List.replicate n []) := by
  refine ⟨by rw [List.length_replicate]; exact h, fun l hl => ?_, fun ⟨c, _, hr⟩ => ?_⟩
  · obtain ⟨_, rfl⟩ := List.mem_replicate.1 hl
    exact ⟨fun x hx => by simp at hx, List.nodup_nil⟩
  · cases hr with
    | one h => exact edge_nils h
    | more h _ => exact edge_nils h
theorem nils_short {n : Nat} : ∀ l ∈ List.replicate n ([] : List Int), l.length ≤ 1000000 := fun l hl => by obtain ⟨_, rfl⟩ := List.mem_replicate.1 hl; simp
theorem cap2_C (lg : Int) : Cap2 (capC lg) := by rcases capC_in lg with h | h | h | h <;> rw [h] <;> unfold Cap2 <;> simp
def wdC (wd : Bool) : Int := if wd then 64 else 32
end Go.Proofs.YtnkmlopjinihiaaDoor
