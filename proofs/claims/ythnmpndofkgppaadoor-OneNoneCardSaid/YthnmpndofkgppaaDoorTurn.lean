/- Contracts of turn's functions, for both widths. -/
import Derived.Test.YthnmpndofkgppaaDoorBoard2
namespace Go.Proofs.YthnmpndofkgppaaDoor
open Go.RowKit
set_option linter.unusedVariables false
set_option linter.unusedSimpArgs false
set_option maxHeartbeats 2000000

/-- what a step of entering does: inside, board, the frame's Pc and Own -/
def enterP (M : Int) (b : BS) (t pc own : Int) : Bool × BS × Int × Int :=
  if b.l.c.variant ≠ 5 then (true, b, pc, own)
  else if pc = 0 then (false, (b.add M t b.l.ticket 1).2, 1, (b.add M t b.l.ticket 1).1)
  else if (b.load t b.l.serving).1 = own then (true, (b.load t b.l.serving).2, 2, own)
  else (false, (b.load t b.l.serving).2, pc, own)
def leaveP (M : Int) (b : BS) (t : Int) : BS := if b.l.c.variant = 5 then (b.add M t b.l.serving 1).2 else b
def waitingP (M : Int) (b : BS) : Int := if b.l.c.variant = 5 then difM M (b.at_ b.l.ticket) (b.at_ b.l.serving) else 0
def EnterEnd (tB tW tA : TypeId) (kd : IntKind) (w : World) (γ : Nat → Nat) (id fid p fb o : Nat) (T : TypeId) (cs : Array Value) (r : Bool × BS × Int × Int) (e : Ending) (w' : World) : Prop :=
  e = .returned (.bool r.1) ∧ ∃ γ', BoardAt tB tW tA kd w' γ' id p r.2.1 ∧ Blk w' fb T ((cs.setIfInBounds (o + 9) (.int kd r.2.2.2)).setIfInBounds (o + 3) (.int .i64 r.2.2.1)) ∧ Fr (TwoId id fid) γ γ' w w'
section
variable {tB tW tA : TypeId} {kd : IntKind} {w w' w1 w2 : World} {γ γ' : Nat → Nat} {id fid p fb o : Nat} {b b' : BS} {T : TypeId} {cs : Array Value} {pc own : Int}
theorem set_same {cs : Array Value} {i : Nat} {v : Value} (h : cs[i]? = some v) : cs.setIfInBounds i v = cs := by
  apply Array.ext
  · simp
  · intro j h1 h2
    by_cases hij : i = j
    · subst hij
      rw [Array.getElem_setIfInBounds (by simpa using h2)]
      simp only [if_pos]
      have := Array.getElem?_eq_getElem (xs := cs) (i := i) (by simpa using h1)
      rw [this] at h
      exact (Option.some.inj h).symm
    · rw [Array.getElem_setIfInBounds (by simpa using h2), if_neg hij]
theorem mut_chain {P : Program} {f : FuncId} {args : Array Value} {W : World} {v : Value} (hW : Below w.heap.size w W) (hf : Blk w fb T cs) (hfl : γ fb = fid) (hne : fid ≠ id)
    (h : Calls P f args W (MutEnd tB tW tA kd W γ id p v b')) :
    Calls P f args W fun e w' => e = .returned v ∧ ∃ γ', BoardAt tB tW tA kd w' γ' id p b' ∧ Fr (OneId id) γ γ' w w' ∧ Blk w' fb T cs := h.mono fun _ _ ⟨he, γ', hB, hfr⟩ =>
  ⟨he, γ', hB, (Fr.of_below hW _ _).trans hfr, hfr.block_ (hf.below hW hf.lt) (by rw [hfl]; exact hne)⟩
theorem EnterEnd.of_mut {r : Bool × BS × Int × Int} (hB : BoardAt tB tW tA kd w1 γ' id p r.2.1) (hfr : Fr (OneId id) γ γ' w w1) (hlab : γ fb = fid) (hne : fid ≠ id) (hl : fb < w.heap.size) (hw' : Fr (OneId fid) γ' γ' w1 w') (hF : Blk w' fb T ((cs.setIfInBounds (o + 9) (.int kd r.2.2.2)).setIfInBounds (o + 3) (.int .i64 r.2.2.1))) :
    EnterEnd tB tW tA kd w γ id fid p fb o T cs r (.returned (.bool r.1)) w' :=
  ⟨rfl, γ', hB.fr hw' (fun h => hne h.symm), hF, (hfr.mono (fun i h => .inl h)).trans (hw'.mono (fun i h => .inr h))⟩
theorem fr_set (hl : γ fb = fid) (i : Nat) (u : Value) : Fr (OneId fid) γ γ w (w.setCell ⟨fb, i, none⟩ u) := (Fr.refl _ _ _).setCell (p := ⟨fb, i, none⟩) (.inr hl) u
theorem EnterEnd.same {r : Bool × BS × Int × Int} (hr : r = (r.1, b, pc, own)) (h : BoardAt tB tW tA kd w γ id p b) (hf : Blk w fb T cs) (h3 : cs[o + 3]? = some (.int .i64 pc)) (h9 : cs[o + 9]? = some (.int kd own)) (hb : Below w.heap.size w w') :
    EnterEnd tB tW tA kd w γ id fid p fb o T cs r (.returned (.bool r.1)) w' := by
  rw [hr]
  refine ⟨rfl, γ, h.below hb, ?_, Fr.of_below hb _ _⟩
  have e1 : cs.setIfInBounds (o + 9) (.int kd own) = cs := set_same h9
  have e2 : cs.setIfInBounds (o + 3) (.int .i64 pc) = cs := set_same h3
  show Blk w' fb T ((cs.setIfInBounds (o + 9) (.int kd own)).setIfInBounds (o + 3) (.int .i64 pc))
  rw [e1, e2]
  exact hf.below hb hf.lt
end
section
variable (v0 v1 v2 v3 v4 : Int) (v5 : Option Addr) (n6 n7 : Nat) (v8 v9 v10 v11 v12 v13 v14 v15 : Int) (w : World)
theorem fld_conf : (Instr.field 30 (.agg #[.int .i64 v0, .int .i64 v1, .int .i64 v2, .int .i64 v3, .int .u64 v4, .slice v5 n6 n7, .int .i64 v8, .int .i64 v9, .int .i64 v10, .int .i64 v11, .int .i64 v12, .int .i64 v13, .int .i64 v14, .int .i64 v15]) 0).run Tryd.prog w = .ok (.agg #[.int .i64 v0, .int .i64 v1, .int .i64 v2, .int .i64 v3, .int .u64 v4, .slice v5 n6 n7]) w := by kernel_rfl
theorem fld_serving : (Instr.field 30 (.agg #[.int .i64 v0, .int .i64 v1, .int .i64 v2, .int .i64 v3, .int .u64 v4, .slice v5 n6 n7, .int .i64 v8, .int .i64 v9, .int .i64 v10, .int .i64 v11, .int .i64 v12, .int .i64 v13, .int .i64 v14, .int .i64 v15]) 4).run Tryd.prog w = .ok (.int .i64 v11) w := by kernel_rfl
theorem fld_variant : (Instr.field 25 (.agg #[.int .i64 v0, .int .i64 v1, .int .i64 v2, .int .i64 v3, .int .u64 v4, .slice v5 n6 n7]) 0).run Tryd.prog w = .ok (.int .i64 v0) w := by kernel_rfl
theorem fld_width : (Instr.field 25 (.agg #[.int .i64 v0, .int .i64 v1, .int .i64 v2, .int .i64 v3, .int .u64 v4, .slice v5 n6 n7]) 1).run Tryd.prog w = .ok (.int .i64 v1) w := by kernel_rfl
theorem fld_cap : (Instr.field 25 (.agg #[.int .i64 v0, .int .i64 v1, .int .i64 v2, .int .i64 v3, .int .u64 v4, .slice v5 n6 n7]) 2).run Tryd.prog w = .ok (.int .i64 v2) w := by kernel_rfl
end
theorem calls_chain {P : Program} {f : FuncId} {args : Array Value} {w W : World} {v : Value} (hW : Below w.heap.size w W) (h : Calls P f args W fun e w' => e = .returned v ∧ Below W.heap.size W w') :
    Calls P f args W fun e w' => e = .returned v ∧ Below W.heap.size W w' ∧ Below w.heap.size w w' := h.mono fun _ _ ⟨he, hb⟩ => ⟨he, hb, hW.trans (hb.mono hW.size)⟩
end Go.Proofs.YthnmpndofkgppaaDoor
