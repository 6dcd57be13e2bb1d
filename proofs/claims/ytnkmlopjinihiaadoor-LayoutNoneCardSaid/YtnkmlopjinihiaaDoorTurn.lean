/- Contracts of turn's functions, for both widths. -/
import Derived.Test.YtnkmlopjinihiaaDoorBoard2
namespace Go.Proofs.YtnkmlopjinihiaaDoor
open Go.RowKit
set_option linter.unusedVariables false
set_option linter.unusedSimpArgs false
set_option maxHeartbeats 2000000

/-- what a step of entering does: inside, board, the frame's Pc and Own -/
def enterP (M : Int) (b : BS) (t pc own : Int) : Bool × BS × Int × Int :=
  if b.l.c.variant ≠ 5 then (true, b, pc, own)
  else if pc = 0 then (false, (b.add M t b.l.ticket 1).2, 1, (b.add M t b.l.ticket 1).1)
  else if (b.load t b.l.serving).1 = own then (true, (b.load t b.l.serving).2, 2, own)
  else (false, (b.load t b.l.serving).2, pc, own)
def leaveP (M : Int) (b : BS) (t : Int) : BS := if b.l.c.variant = 5 then (b.add M t b.l.serving 1).2 else b
def waitingP (M : Int) (b : BS) : Int := if b.l.c.variant = 5 then difM M (b.at_ b.l.ticket) (b.at_ b.l.serving) else 0
def EnterEnd (tB tW tA : TypeId) (kd : IntKind) (w : World) (γ : Nat → Nat) (id fid p fb o : Nat) (T : TypeId) (cs : Array Value) (r : Bool × BS × Int × Int) (e : Ending) (w' : World) : Prop :=
  e = .returned (.bool r.1) ∧ ∃ γ', BoardAt tB tW tA kd w' γ' id p r.2.1 ∧ Blk w' fb T ((cs.setIfInBounds (o + 9) (.int kd r.2.2.2)).setIfInBounds (o + 3) (.int .i64 r.2.2.1)) ∧ Fr (TwoId id fid) γ γ' w w'
section
variable {tB tW tA : TypeId} {kd : IntKind} {w w' w1 w2 : World} {γ γ' : Nat → Nat} {id fid p fb o : Nat} {b b' : BS} {T : TypeId} {cs : Array Value} {pc own : Int}
theorem set_same {cs : Array Value} {i : Nat} {v : Value} (h : cs[i]? = some v) : cs.setIfInBounds i v = cs := by
  apply Array.ext
  · simp
  · intro j h1 h2
    by_cases hij : i = j
    · subst hij
      rw [Array.getElem_setIfInBounds (by simpa using h2)]
      simp only [if_pos]
      have := Array.getElem?_eq_getElem (xs := cs) (i := i) (by simpa using h1)
      rw [this] at h
      exact (Option.some.inj h).symm
    · rw [Array.getElem_setIfInBounds (by simpa using h2), if_neg hij]
theorem mut_chain {P : Program} {f : FuncId} {args : Array Value} {W : World} {v : Value} (hW : Below w.heap.size w W) (hf : Blk w fb T cs) (hfl : γ fb = fid) (hne : fid ≠ id)
    (h : Calls P f args W (MutEnd tB tW tA kd W γ id p v b')) :
    Calls P f args W fun e w' => e = .returned v ∧ ∃ γ', BoardAt tB tW tA kd w' γ' id p b' ∧ Fr (OneId id) γ γ' w w' ∧ Blk w' fb T cs := h.mono fun _ _ ⟨he, γ', hB, hfr⟩ =>
  ⟨he, γ', hB, (Fr.of_below hW _ _).trans hfr, hfr.block_ (hf.below hW hf.lt) (by rw [hfl]; exact hne)⟩
theorem EnterEnd.of_mut {r : Bool × BS × Int × Int} (hB : BoardAt tB tW tA kd w1 γ' id p r.2.1) (hfr : Fr (OneId id) γ γ' w w1) (hlab : γ fb = fid) (hne : fid ≠ id) (hl : fb < w.heap.size) (hw' : Fr (OneId fid) γ' γ' w1 w') (hF : Blk w' fb T ((cs.setIfInBounds (o + 9) (.int kd r.2.2.2)).setIfInBounds (o + 3) (.int .i64 r.2.2.1))) :
    EnterEnd tB tW tA kd w γ id fid p fb o T cs r (.returned (.bool r.1)) w' :=
  ⟨rfl, γ', hB.fr hw' (fun h => hne h.symm), hF, (hfr.mono (fun i h => .inl h)).trans (hw'.mono (fun i h => .inr h))⟩
theorem fr_set (hl : γ fb = fid) (i : Nat) (u : Value) : Fr (OneId fid) γ γ w (w.setCell ⟨fb, i, none⟩ u) := (Fr.refl _ _ _).setCell (p := ⟨fb, i, none⟩) (.inr hl) u
theorem EnterEnd.same {r : Bool × BS × Int × Int} (hr : r = (r.1, b, pc, own)) (h : BoardAt tB tW tA kd w γ id p b) (hf : Blk w fb T cs) (h3 : cs[o + 3]? = some (.int .i64 pc)) (h9 : cs[o + 9]? = some (.int kd own)) (hb : Below w.heap.size w w') :
    EnterEnd tB tW tA kd w γ id fid p fb o T cs r (.returned (.bool r.1)) w' := by
  rw [hr]
  refine ⟨rfl, γ, h.below hb, ?_, Fr.of_below hb _ _⟩
  have e1 : cs.setIfInBounds (o + 9) (.int kd own) = cs := set_same h9
  have e2 : cs.setIfInBounds (o + 3) (.int .i64 pc) = cs := set_same h3
  show Blk w' fb T ((cs.setIfInBounds (o + 9) (.int kd own)).setIfInBounds (o + 3) (.int .i64 pc))
  rw [e1, e2]
  exact hf.below hb hf.lt
end
section
variable (v0 v1 v2 v3 v4 : Int) (v5 : Option Addr) (n6 n7 : Nat) (v8 v9 v10 v11 v12 v13 v14 v15 : Int) (w : World)
theorem fld_conf : (Instr.field 30 (.agg #[.int .i64 v0, .int .i64 v1, .int .i64 v2, .int .i64 v3, .int .u64 v4, .slice v5 n6 n7, .int .i64 v8, .int .i64 v9, .int .i64 v10, .int .i64 v11, .int .i64 v12, .int .i64 v13, .int .i64 v14, .int .i64 v15]) 0).run Tryd.prog w = .ok (.agg #[.int .i64 v0, .int .i64 v1, .int .i64 v2, .int .i64 v3, .int .u64 v4, .slice v5 n6 n7]) w := by kernel_rfl
theorem fld_serving : (Instr.field 30 (.agg #[.int .i64 v0, .int .i64 v1, .int .i64 v2, .int .i64 v3, .int .u64 v4, .slice v5 n6 n7, .int .i64 v8, .int .i64 v9, .int .i64 v10, .int .i64 v11, .int .i64 v12, .int .i64 v13, .int .i64 v14, .int .i64 v15]) 4).run Tryd.prog w = .ok (.int .i64 v11) w := by kernel_rfl
theorem fld_variant : (Instr.field 25 (.agg #[.int .i64 v0, .int .i64 v1, .int .i64 v2, .int .i64 v3, .int .u64 v4, .slice v5 n6 n7]) 0).run Tryd.prog w = .ok (.int .i64 v0) w := by kernel_rfl
theorem fld_width : (Instr.field 25 (.agg #[.int .i64 v0, .int .i64 v1, .int .i64 v2, .int .i64 v3, .int .u64 v4, .slice v5 n6 n7]) 1).run Tryd.prog w = .ok (.int .i64 v1) w := by kernel_rfl
theorem fld_cap : (Instr.field 25 (.agg #[.int .i64 v0, .int .i64 v1, .int .i64 v2, .int .i64 v3, .int .u64 v4, .slice v5 n6 n7]) 2).run Tryd.prog w = .ok (.int .i64 v2) w := by kernel_rfl
end
theorem calls_chain {P : Program} {f : FuncId} {args : Array Value} {w W : World} {v : Value} (hW : Below w.heap.size w W) (h : Calls P f args W fun e w' => e = .returned v ∧ Below W.heap.size W w') :
    Calls P f args W fun e w' => e = .returned v ∧ Below W.heap.size W w' ∧ Below w.heap.size w w' := h.mono fun _ _ ⟨he, hb⟩ => ⟨he, hb, hW.trans (hb.mono hW.size)⟩
theorem tHas32 (w : World) (γ : Nat → Nat) (id p : Nat) (b : BS) (h : BoardAt 132 48 208 .u32 w γ id p b) :
    Calls Tryd.prog 188 #[.pointer (some ⟨p, 0, none⟩)] w fun e w' => e = .returned (.bool (decide (b.l.c.variant = 5))) ∧ Below w.heap.size w w' := by
  have HL := Lib.hid (bLayout32 w γ id p b h)
  have hvs : b.l.vs = Lay.vs ⟨⟨b.l.c.variant, b.l.c.width, b.l.c.cap, b.l.c.producers, b.l.c.start, b.l.c.ua, b.l.c.un, b.l.c.uc⟩, b.l.cursor, b.l.claim, b.l.ticket, b.l.serving, b.l.next, b.l.marks, b.l.slots, b.l.cells⟩ := rfl
  rw [hvs] at HL
  unfold Lay.vs at HL
  clear h hvs
  have hf1 := fld_conf
  have hf2 := fld_variant
  go_enter Tryd.func188, Tryd.ntmps188
  go_wp2_with (go_at_call 131; refine HL.out.mono ?_; rintro e w1 ⟨rfl, hb1⟩)
  go_ret
  exact ⟨rfl, hb1⟩
theorem tHasN32 (w : World) :
    Calls Tryd.prog 188 #[.pointer none] w fun e w' => e = .returned (.bool false) ∧ w = w' := by
  go_enter Tryd.func188, Tryd.ntmps188
  go_wp2_with fail
  go_ret
  exact ⟨rfl, rfl⟩
theorem tLeave32 (w : World) (γ : Nat → Nat) (id p : Nat) (b : BS) (h : BoardAt 132 48 208 .u32 w γ id p b) (hok : b.Ok M32) (hlen : b.log.length ≤ 1000000) (t : Int) :
    Calls Tryd.prog 189 #[.pointer (some ⟨p, 0, none⟩), .int .i64 t] w
      (MutEnd 132 48 208 .u32 w γ id p (.tuple #[]) (leaveP M32 b t)) := by
  have HH := Lib.hid (tHas32 w γ id p b h)
  have H := Lib.hid h
  unfold leaveP
  by_cases hv : b.l.c.variant = 5
  · rw [if_pos hv]
    rw [show decide (b.l.c.variant = 5) = true from decide_eq_true hv] at HH
    have HL := Lib.hid (fun w1 hB => bLayout32 w1 γ id p b hB)
    have hvs : b.l.vs = Lay.vs ⟨⟨b.l.c.variant, b.l.c.width, b.l.c.cap, b.l.c.producers, b.l.c.start, b.l.c.ua, b.l.c.un, b.l.c.uc⟩, b.l.cursor, b.l.claim, b.l.ticket, b.l.serving, b.l.next, b.l.marks, b.l.slots, b.l.cells⟩ := rfl
    rw [hvs] at HL
    unfold Lay.vs at HL
    have HA := Lib.hid (fun w1 hB => bAdd32 w1 γ id p b hB hok hlen t b.l.serving 1)
    clear h hvs hok hlen hv
    have hf1 := fld_serving
    go_enter Tryd.func189, Tryd.ntmps189
    go_wp2_with (first
      | (go_at_call 188; refine HH.out.mono ?_; rintro e w1 ⟨rfl, hb1⟩; have HB1 := Lib.hid hb1; clear hb1)
      | (go_at_call 131; refine (HL.out _ (H.out.below HB1.out)).mono ?_; rintro e w2 ⟨rfl, hb2⟩; have HB2 := Lib.hid (HB1.out.trans (hb2.mono HB1.out.size)); clear hb2)
      | (go_at_call 140; refine (HA.out _ (H.out.below HB2.out)).mono ?_; rintro e w3 ⟨rfl, γ', hB, hfr⟩; have HB := Lib.hid hB; have HFR := Lib.hid hfr; clear hB hfr))
    first | go_end0 | refine bodyPost_ret (results_none rfl _ _ _) rfl ?_
    exact MutEnd.from_ HB2.out ⟨rfl, γ', HB.out, HFR.out⟩
  · rw [if_neg hv]
    rw [show decide (b.l.c.variant = 5) = false from decide_eq_false hv] at HH
    clear h hok hlen hv
    go_enter Tryd.func189, Tryd.ntmps189
    go_wp2_with (go_at_call 188; refine HH.out.mono ?_; rintro e w1 ⟨rfl, hb1⟩; have HB1 := Lib.hid hb1; clear hb1)
    first | go_end0 | refine bodyPost_ret (results_none rfl _ _ _) rfl ?_
    exact MutEnd.of_below H.out HB1.out
theorem tEnter32 (w : World) (γ : Nat → Nat) (id fid p : Nat) (b : BS) (h : BoardAt 132 48 208 .u32 w γ id p b) (hok : b.Ok M32) (hlen : b.log.length ≤ 1000000) (t : Int)
    (fb o : Nat) (T : TypeId) (cs : Array Value) (hf : Blk w fb T cs) (hfl : γ fb = fid) (hne : fid ≠ id) (pc own : Int) (h3 : cs[o + 3]? = some (.int .i64 pc)) (h9 : cs[o + 9]? = some (.int .u32 own)) :
    Calls Tryd.prog 147 #[.pointer (some ⟨p, 0, none⟩), .int .i64 t, .pointer (some ⟨fb, o, none⟩)] w
      (EnterEnd 132 48 208 .u32 w γ id fid p fb o T cs (enterP M32 b t pc own)) := by
  have HH := Lib.hid (tHas32 w γ id p b h)
  have H := Lib.hid h
  have HF := Lib.hid hf
  have H3 := Lib.hid h3
  have H9 := Lib.hid h9
  by_cases hv : b.l.c.variant = 5
  · rw [show decide (b.l.c.variant = 5) = true from decide_eq_true hv] at HH
    have HV := Lib.hid hv
    have HNE := Lib.hid (And.intro hfl hne)
    have hq3 : w.cell? ⟨fb, o + 3, none⟩ = some (.int .i64 pc) := (hf.cell _).trans h3
    have hq9 : w.cell? ⟨fb, o + 9, none⟩ = some (.int .u32 own) := (hf.cell _).trans h9
    have hz3 := hf.frozen (o + 3)
    have hz9 := hf.frozen (o + 9)
    have hlt := hf.lt
    have HL := Lib.hid (fun W (hW : Below w.heap.size w W) => calls_chain hW (bLayout32 W γ id p b (h.below hW)))
    have hvs : b.l.vs = Lay.vs ⟨⟨b.l.c.variant, b.l.c.width, b.l.c.cap, b.l.c.producers, b.l.c.start, b.l.c.ua, b.l.c.un, b.l.c.uc⟩, b.l.cursor, b.l.claim, b.l.ticket, b.l.serving, b.l.next, b.l.marks, b.l.slots, b.l.cells⟩ := rfl
    rw [hvs] at HL
    unfold Lay.vs at HL
    have HA := Lib.hid (fun W (hW : Below w.heap.size w W) => mut_chain hW hf hfl hne (bAdd32 W γ id p b (h.below hW) hok hlen t b.l.ticket 1))
    have HO := Lib.hid (fun W (hW : Below w.heap.size w W) => mut_chain hW hf hfl hne (bLoad32 W γ id p b (h.below hW) hok hlen t b.l.serving))
    clear h hvs hok hlen hv hf h3 h9 hfl hne
    by_cases hpc : pc = 0
    · subst hpc
      go_enter Tryd.func147, Tryd.ntmps147
      go_wp2_with (first
        | (go_at_call 188; refine HH.out.mono ?_; rintro e w1 ⟨rfl, hb1⟩; obtain ⟨hc1, hf1⟩ := bcell hb1; have hz1 := Nat.lt_of_lt_of_le hlt hb1.size; have HB1 := Lib.hid hb1; clear hb1)
        | (go_at_call 131; refine (HL.out _ HB1.out).mono ?_; rintro e w2 ⟨rfl, hb2, hB2⟩; obtain ⟨hc2, hf2⟩ := bcell hb2; have hz2 := Nat.lt_of_lt_of_le hz1 hb2.size; have HB2 := Lib.hid hB2; clear hb2 hB2)
        | (go_at_call 140
           refine (HA.out _ (by
             (repeat (with_reducible first | exact HB2.out | refine Below.drew ?_ | refine Below.setCell ?_ ?_ _ | refine Below.alloc ?_ ?_ _))
             all_goals (have hzz := HB2.out.size; first | omega | (dsimp only; omega) | (simp; omega)))).mono ?_
           rintro e w3 ⟨rfl, γ', hB, hfr, hF3⟩
           have hr3 := (hF3.cell (o + 3)).trans H3.out
           have hr9 := (hF3.cell (o + 9)).trans H9.out
           have hs3 := hF3.frozen (o + 3)
           have hs9 := hF3.frozen (o + 9)
           have HB := Lib.hid hB
           have HFR := Lib.hid hfr
           have HF3 := Lib.hid hF3
           clear hB hfr hF3))
      go_ret
      have hr : enterP M32 b t 0 own = (false, (b.add M32 t b.l.ticket 1).2, 1, (b.add M32 t b.l.ticket 1).1) := by unfold enterP; rw [if_neg (by simp [HV.out]), if_pos rfl]
      rw [hr]
      refine EnterEnd.of_mut (r := (false, (b.add M32 t b.l.ticket 1).2, 1, (b.add M32 t b.l.ticket 1).1)) HB.out HFR.out HNE.out.1 HNE.out.2 hlt ?_ ((HF3.out.set_ (o + 9) _).set_ (o + 3) _)
      have hlg : γ' fb = fid := (HFR.out.lab fb hlt).trans HNE.out.1
      exact (((Fr.refl _ _ _).setCell (p := ⟨fb, o + 9, none⟩) (.inr hlg) _).setCell (p := ⟨fb, o + 3, none⟩) (.inr hlg) _)
    · by_cases hown : (b.load t b.l.serving).1 = own
      · have HR : enterP M32 b t pc own = (true, (b.load t b.l.serving).2, 2, own) := by unfold enterP; rw [if_neg (by simp [HV.out]), if_neg hpc, if_pos hown]
        rw [HR]
        clear HR
        go_enter Tryd.func147, Tryd.ntmps147
        go_wp2_with (first
          | (go_at_call 188; refine HH.out.mono ?_; rintro e w1 ⟨rfl, hb1⟩; obtain ⟨hc1, hf1⟩ := bcell hb1; have hz1 := Nat.lt_of_lt_of_le hlt hb1.size; have HB1 := Lib.hid hb1; clear hb1)
          | (go_at_call 131; refine (HL.out _ HB1.out).mono ?_; rintro e w2 ⟨rfl, hb2, hB2⟩; obtain ⟨hc2, hf2⟩ := bcell hb2; have hz2 := Nat.lt_of_lt_of_le hz1 hb2.size; have HB2 := Lib.hid hB2; clear hb2 hB2))
        go_region_with (go_at_call 104
                        refine (HO.out _ (by
                          (repeat (with_reducible first | exact HB2.out | refine Below.drew ?_ | refine Below.setCell ?_ ?_ _ | refine Below.alloc ?_ ?_ _))
                          all_goals (have hzz := HB2.out.size; first | omega | (dsimp only; omega) | (simp; omega)))).mono ?_
                        rintro e w3 ⟨rfl, γ', hB, hfr, hF3⟩
                        have hr3 := (hF3.cell (o + 3)).trans H3.out
                        have hr9 := (hF3.cell (o + 9)).trans H9.out
                        have hs3 := hF3.frozen (o + 3)
                        have HB := Lib.hid hB
                        have HFR := Lib.hid hfr
                        have HF3 := Lib.hid hF3
                        clear hB hfr hF3)
        all_goals go_wp2_with fail
        all_goals go_ret
        all_goals exact EnterEnd.of_mut (r := (true, (b.load t b.l.serving).2, 2, own)) HB.out HFR.out HNE.out.1 HNE.out.2 hlt (fr_set ((HFR.out.lab fb hlt).trans HNE.out.1) _ _) (by rw [set_same H9.out]; exact HF3.out.set_ (o + 3) _)
      · have HR : enterP M32 b t pc own = (false, (b.load t b.l.serving).2, pc, own) := by unfold enterP; rw [if_neg (by simp [HV.out]), if_neg hpc, if_neg hown]
        rw [HR]
        clear HR
        go_enter Tryd.func147, Tryd.ntmps147
        go_wp2_with (first
          | (go_at_call 188; refine HH.out.mono ?_; rintro e w1 ⟨rfl, hb1⟩; obtain ⟨hc1, hf1⟩ := bcell hb1; have hz1 := Nat.lt_of_lt_of_le hlt hb1.size; have HB1 := Lib.hid hb1; clear hb1)
          | (go_at_call 131; refine (HL.out _ HB1.out).mono ?_; rintro e w2 ⟨rfl, hb2, hB2⟩; obtain ⟨hc2, hf2⟩ := bcell hb2; have hz2 := Nat.lt_of_lt_of_le hz1 hb2.size; have HB2 := Lib.hid hB2; clear hb2 hB2))
        go_region_with (go_at_call 104
                        refine (HO.out _ (by
                          (repeat (with_reducible first | exact HB2.out | refine Below.drew ?_ | refine Below.setCell ?_ ?_ _ | refine Below.alloc ?_ ?_ _))
                          all_goals (have hzz := HB2.out.size; first | omega | (dsimp only; omega) | (simp; omega)))).mono ?_
                        rintro e w3 ⟨rfl, γ', hB, hfr, hF3⟩
                        have hr3 := (hF3.cell (o + 3)).trans H3.out
                        have hr9 := (hF3.cell (o + 9)).trans H9.out
                        have hs3 := hF3.frozen (o + 3)
                        have HB := Lib.hid hB
                        have HFR := Lib.hid hfr
                        have HF3 := Lib.hid hF3
                        clear hB hfr hF3)
        all_goals go_wp2_with fail
        all_goals go_ret
        all_goals exact EnterEnd.of_mut (r := (false, (b.load t b.l.serving).2, pc, own)) HB.out HFR.out HNE.out.1 HNE.out.2 hlt (Fr.refl _ _ _) (by rw [set_same H9.out, set_same H3.out]; exact HF3.out)
  · rw [show decide (b.l.c.variant = 5) = false from decide_eq_false hv] at HH
    have hr : enterP M32 b t pc own = (true, b, pc, own) := by unfold enterP; rw [if_pos hv]
    rw [hr]
    clear h hok hlen hv hf h3 h9
    go_enter Tryd.func147, Tryd.ntmps147
    go_wp2_with (go_at_call 188; refine HH.out.mono ?_; rintro e w1 ⟨rfl, hb1⟩; have HB1 := Lib.hid hb1; clear hb1)
    go_ret
    exact EnterEnd.same (r := (true, b, pc, own)) rfl H.out HF.out H3.out H9.out HB1.out
theorem tEnterNB32 (w : World) (t : Int) (fv : Value) :
    Calls Tryd.prog 147 #[.pointer none, .int .i64 t, fv] w fun e w' => e = .returned (.bool true) ∧ w = w' := by
  go_enter Tryd.func147, Tryd.ntmps147
  go_wp2_with (go_at_call 188; refine (tHasN32 _).mono ?_; rintro e w1 ⟨rfl, rfl⟩)
  go_ret
  exact ⟨rfl, rfl⟩
theorem tEnterNF32 (w : World) (γ : Nat → Nat) (id p : Nat) (b : BS) (h : BoardAt 132 48 208 .u32 w γ id p b) (t : Int) :
    Calls Tryd.prog 147 #[.pointer (some ⟨p, 0, none⟩), .int .i64 t, .pointer none] w fun e w' => e = .returned (.bool true) ∧ Below w.heap.size w w' := by
  have HH := Lib.hid (tHas32 w γ id p b h)
  clear h
  by_cases hv : b.l.c.variant = 5
  · rw [show decide (b.l.c.variant = 5) = true from decide_eq_true hv] at HH
    clear hv
    go_enter Tryd.func147, Tryd.ntmps147
    go_wp2_with (go_at_call 188; refine HH.out.mono ?_; rintro e w1 ⟨rfl, hb1⟩)
    go_ret
    exact ⟨rfl, hb1⟩
  · rw [show decide (b.l.c.variant = 5) = false from decide_eq_false hv] at HH
    clear hv
    go_enter Tryd.func147, Tryd.ntmps147
    go_wp2_with (go_at_call 188; refine HH.out.mono ?_; rintro e w1 ⟨rfl, hb1⟩)
    go_ret
    exact ⟨rfl, hb1⟩
theorem tLeaveN32 (w : World) (t : Int) :
    Calls Tryd.prog 189 #[.pointer none, .int .i64 t] w fun e w' => e = .returned (.tuple #[]) ∧ w = w' := by
  go_enter Tryd.func189, Tryd.ntmps189
  go_wp2_with (go_at_call 188; refine (tHasN32 _).mono ?_; rintro e w1 ⟨rfl, rfl⟩)
  first | go_end0 | refine bodyPost_ret (results_none rfl _ _ _) rfl ?_
  exact ⟨rfl, rfl⟩
end Go.Proofs.YtnkmlopjinihiaaDoor
