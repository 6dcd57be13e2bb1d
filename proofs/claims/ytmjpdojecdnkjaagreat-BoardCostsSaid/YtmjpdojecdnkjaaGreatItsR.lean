/- The reference's board among several things in memory. -/
import Derived.Test.YtmjpdojecdnkjaaGreatIts
import Derived.Test.YtmjpdojecdnkjaaGreatRefM
import Derived.Test.YtmjpdojecdnkjaaGreatTurnP
import Derived.Test.YtmjpdojecdnkjaaGreatRef18
namespace Go.Proofs.YtmjpdojecdnkjaaGreat
open Go.RowKit
set_option linter.unusedVariables false

theorem Its.of_old {w0 w : World} {γ : Nat → Nat} {L : List It} (h : Old w0 w γ) (hall : ∀ x ∈ L, x.P w γ) (ids : ∀ x ∈ L, x.id ≠ 0) (nodup : (L.map (·.id)).Nodup) : Its w0 (fun _ => 0) NoId L w γ :=
  ⟨h.bel.os, h.bel.tape, h.bel.output, h.bel.size, fun b hb _ => ⟨h.bel.block b hb, h.lab b hb⟩, fun _ _ h => h.elim, hall, ids, nodup⟩
theorem RefAt.keptI {id q : Nat} {c0 : Cf} {b : BS} {w w' : World} {γ γ' : Nat → Nat} (h : RefAt w γ id q c0 b) (hk : Kept id w w' γ γ') : RefAt w' γ' id q c0 b := by
  obtain ⟨rc, cv, hv, lv, ⟨h1, h2, h3, h4, h5⟩, hr⟩ := h
  have hb := h1.keptI h2 hk
  exact ⟨rc, cv, hv, lv, ⟨hb.1, hb.2, h3.keptI hk, h4.keptI hk, h5.keptI hk⟩, hr⟩
/-- the reference's board -/
def itR (id q : Nat) (c0 : Cf) (b : BS) : It := ⟨id, fun w γ => RefAt w γ id q c0 b, fun h hk => h.keptI hk⟩
theorem its_pair {tB tW tA : TypeId} {kd : IntKind} {w0 w : World} {γ : Nat → Nat} {p q : Nat} {c0 : Cf} {b x : BS} (hO : Old w0 w γ) (hB : BoardAt tB tW tA kd w γ 1 p b) (hR : RefAt w γ 4 q c0 x) : Its w0 (fun _ => 0) NoId [itB tB tW tA kd 1 p b, itR 4 q c0 x] w γ := by
  refine Its.of_old hO ?_ ?_ (show [1, 4].Nodup by decide)
  · intro y hy
    rcases List.mem_cons.1 hy with rfl | hy
    · exact hB
    · rcases List.mem_cons.1 hy with rfl | hy
      · exact hR
      · cases hy
  · intro y hy
    rcases List.mem_cons.1 hy with rfl | hy
    · exact (by decide : (1 : Nat) ≠ 0)
    · rcases List.mem_cons.1 hy with rfl | hy
      · exact (by decide : (4 : Nat) ≠ 0)
      · cases hy
theorem its_four {tB tW tA tF tG : TypeId} {kd : IntKind} {w0 w : World} {γ0 γ : Nat → Nat} {S : Nat → Prop} {p q : Nat} {c0 : Cf} {b x : BS} (h : Its w0 γ0 S [itB tB tW tA kd 1 p b, itR 4 q c0 x] w γ) (cs ds : Array Value) :
    ∃ γ', Its w0 γ0 S [itB tB tW tA kd 1 p b, itR 4 q c0 x, itK 2 w.heap.size tF cs, itK 5 (w.heap.size + 1) tG ds] ((w.alloc (.cells cs tF)).alloc (.cells ds tG)) γ' := by
  have h1 := h.box 2 tF cs (by decide) (by intro x hx; rcases List.mem_cons.1 hx with rfl | hx; exact (by decide : (1 : Nat) ≠ 2); rcases List.mem_cons.1 hx with rfl | hx; exact (by decide : (4 : Nat) ≠ 2); cases hx)
  have h2 := h1.box 5 tG ds (by decide) (by intro x hx; rcases List.mem_cons.1 hx with rfl | hx; exact (by decide : (1 : Nat) ≠ 5); rcases List.mem_cons.1 hx with rfl | hx; exact (by decide : (4 : Nat) ≠ 5); rcases List.mem_cons.1 hx with rfl | hx; exact (by decide : (2 : Nat) ≠ 5); cases hx)
  rw [show (w.alloc (.cells cs tF)).heap.size = w.heap.size + 1 by simp] at h2
  exact ⟨_, h2⟩
/-- a call turns the reference's board, the k-th thing -/
theorem Its.rmut {id q : Nat} {c0 : Cf} {w0 w w' : World} {γ0 γ : Nat → Nat} {S : Nat → Prop} {L : List It} {b b' : BS} {v : Value} {e : Ending}
    (h : Its w0 γ0 S L w γ) (k : Nat) (hx : L[k]? = some (itR id q c0 b)) (hq : RMutEnd w γ id q c0 v b' e w') : e = .returned v ∧ ∃ γ', Its w0 γ0 S (L.set k (itR id q c0 b')) w' γ' := by
  obtain ⟨he, γ', hB, hf⟩ := hq
  exact ⟨he, γ', h.step k (itR id q c0 b) (itR id q c0 b') hx rfl hf hB⟩
end Go.Proofs.YtmjpdojecdnkjaaGreat
