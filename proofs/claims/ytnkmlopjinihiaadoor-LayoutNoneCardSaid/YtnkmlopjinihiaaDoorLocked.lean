/- sakialaw10.Plain, and a board of a configuration that is made so. -/
import Derived.Test.YtnkmlopjinihiaaDoorTurn
import Derived.Test.YtnkmlopjinihiaaDoorLayOf
import Derived.Test.YtnkmlopjinihiaaDoorNew
namespace Go.Proofs.YtnkmlopjinihiaaDoor
open Go.RowKit
set_option linter.unusedVariables false
set_option linter.unusedSimpArgs false
set_option maxHeartbeats 2000000

theorem own_mono {w : World} {base e size n : Nat} {v : Value} {xs : List Value} (h : w.ownsRow base e size v n xs) : w.ownsRow 0 e size v n xs := by
  refine ⟨h.1, ?_⟩
  rcases h.2 with hn | ⟨g, cap, cur, rfl, hb, rest⟩
  · exact .inl hn
  · exact .inr ⟨g, cap, cur, rfl, Nat.zero_le _, rest⟩
/-- a configuration and its graph's lists, all of it new -/
def ConfEnd (vs : Option Addr → Nat → Array Value) (up : List (List Int)) (w : World) (e : Ending) (w' : World) : Prop :=
  ∃ A c, e = .returned (.agg (vs A c)) ∧ UpAt w' (fun b => w.heap.size ≤ b ∧ b < w'.heap.size) A up ∧ up.length ≤ c ∧ Below w.heap.size w w'
def plainVs (variant : Int) (A : Option Addr) (c : Nat) : Array Value := #[.int .i64 variant, .int .i64 32, .int .i64 4, .int .i64 1, .int .u64 4294967294, .slice A 1 c]
theorem upAt_nil {w : World} {Bk : Nat → Prop} {g : Nat} (hb : Bk g) (hc : w.cell? ⟨g, 0, none⟩ = some (.slice none 0 0)) : UpAt w Bk (some ⟨g, 0, none⟩) [[]] := by
  intro i l hl
  match i with
  | 0 =>
    have : l = [] := by simpa using hl.symm
    subst this
    exact ⟨g, 0, none, 0, rfl, hb, hc, fun i x hx => by simp at hx, Nat.le_refl _⟩
  | i + 1 => simp at hl
theorem plainC (w : World) : Calls Tryd.prog 83 #[] w (ConfEnd (plainVs 2) [[]] w) := by
  go_enter Tryd.func83, Tryd.ntmps83
  go_wp2_with fail
  refine bodyPost_ret (v := .agg (plainVs 2 (some ⟨w.heap.size + 1, 0, none⟩) 1)) ?_ rfl ?_
  · simp only [results, Tryd.results83, plainVs]
    go_simp
  · refine ⟨_, _, rfl, upAt_nil (by simp) (by simp), by simp, ?_⟩
    repeat (with_reducible first | exact Below.refl _ _ | refine Below.setCell ?_ ?_ _ | refine Below.alloc ?_ ?_ _)
    all_goals (simp; try omega)
def LockedEnd (variant : Int) (w : World) (e : Ending) (w' : World) : Prop :=
  ∃ p ua uc, e = .returned (.pointer (some ⟨p, 0, none⟩)) ∧ Below w.heap.size w w' ∧ ∀ γ id, ∃ γ', BoardAt 132 48 208 .u32 w' γ' id p (newBS (mkLay ⟨variant, 32, 4, 1, 4294967294, ua, 1, uc⟩)) ∧ Fr NoId γ γ' w w'
theorem newAt {tB tW : TypeId} {kd : IntKind} {l : Lay} {w w' : World} {e : Ending} (tA : TypeId) (h : NewEnd tB tW kd l w e w') :
    ∃ p, e = .returned (.pointer (some ⟨p, 0, none⟩)) ∧ Below w.heap.size w w' ∧ w.heap.size ≤ p ∧ ∀ γ id, BoardAt tB tW tA kd w' (Lab w γ id) id p (newBS l) ∧ Fr NoId γ (Lab w γ id) w w' := by
  obtain ⟨p, cv, dv, rfl, hb, hp, hB, hc, hd⟩ := h
  have lab : ∀ γ id g, w.heap.size ≤ g → Lab w γ id g = id := fun γ id g hg => by unfold Lab; rw [if_neg (by omega)]
  refine ⟨p, rfl, hb, hp, fun γ id => ⟨⟨cv, dv, _, hB, lab _ _ _ hp, ⟨own_mono hc, fun g hg => lab _ _ _ (hc.lt g hg).1⟩, ⟨own_mono hd, fun g hg => lab _ _ _ (hd.lt g hg).1⟩, ⟨World.ownsRow_nil _ _ _ _, fun g hg => by simp [Value.ownBlock] at hg⟩⟩, ?_⟩⟩
  exact (Fr.of_below hb _ γ).relabel _
theorem newBS_ok {l : Lay} (hbd : l.Bd) (hc : Cap2 l.c.cap) (hce : 0 < l.cells ∧ l.cells = l.slots + l.c.cap) : (newBS l).Ok (MW l.c.width) := by
  have h1 := hbd.slots
  have h2 := hc.bd
  refine ⟨hbd, hce.1, hce.2, ?_, ?_, ?_, ?_⟩
  · rw [newBS_len]; show ((l.slots.toNat : Nat) : Int) = l.slots; omega
  · show (((List.replicate l.c.cap.toNat (0 : Int)).length : Nat) : Int) = l.c.cap
    rw [List.length_replicate]; omega
  · intro x hx
    obtain ⟨k, _, rfl⟩ := List.mem_map.1 hx
    exact Lay.first_in hc _
  · intro x hx
    have : x = 0 := (List.mem_replicate.1 hx).2
    subst this
    omega
theorem edge_one {a b : Nat} (h : Edge [[]] a b) : False := by
  obtain ⟨l, hl, hb⟩ := h
  have : l = [] := by simpa using List.mem_of_getElem? hl
  subst this
  simp at hb
theorem upOk_one : UpOk [[]] := by
  refine ⟨by decide, fun l hl => ?_, fun ⟨c, _, hr⟩ => ?_⟩
  · have : l = [] := by simpa using hl
    subst this
    exact ⟨fun x hx => by simp at hx, List.nodup_nil⟩
  · cases hr with
    | one h => exact edge_one h
    | more h _ => exact edge_one h
theorem lockedOk (variant start : Int) (hv : 2 ≤ variant ∧ variant ≤ 5) (ua : Option Addr) (uc : Nat) : CfOk ⟨variant, 32, 4, 1, start, ua, 1, uc⟩ [[]] :=
  ⟨by show 1 ≤ variant ∧ variant ≤ 5; omega, .inl rfl, .inr (.inl rfl), ⟨Int.le_refl 1, show (1 : Int) ≤ 4 by decide⟩, fun _ => rfl, upOk_one⟩
end Go.Proofs.YtnkmlopjinihiaaDoor
