/- Turns that are played on a board and on the reference's: what a round holds. -/
import Derived.Test.YtmjpdojecdnkjaaGreatRef18
import Derived.Test.YtmjpdojecdnkjaaGreatRefNew
import Derived.Test.YtmjpdojecdnkjaaGreatTurnF
import Derived.Test.YtmjpdojecdnkjaaGreatBoard3
import Derived.Test.YtmjpdojecdnkjaaGreatTurnAlone
namespace Go.Proofs.YtmjpdojecdnkjaaGreat
open Go.RowKit
set_option linter.unusedVariables false
set_option linter.unusedSimpArgs false
set_option maxHeartbeats 2000000

theorem BS.add_log (M : Int) (b : BS) (t k n : Int) : (b.add M t k n).2.log.length ≤ b.log.length + 1 := by unfold BS.add; split <;> simp [BS.lay]
theorem BS.load_log (b : BS) (t k : Int) : (b.load t k).2.log.length ≤ b.log.length + 1 := by unfold BS.load; split <;> simp [BS.look, BS.note]
theorem enterP_log (M : Int) (b : BS) (t pc own : Int) : (enterP M b t pc own).2.1.log.length ≤ b.log.length + 1 := by
  unfold enterP
  split
  · exact Nat.le_succ _
  · split
    · exact b.add_log _ _ _ _
    · split <;> exact b.load_log _ _
theorem leaveP_log (M : Int) (b : BS) (t : Int) : (leaveP M b t).log.length ≤ b.log.length + 1 := by
  unfold leaveP
  split
  · exact b.add_log _ _ _ _
  · exact Nat.le_succ _
theorem BS.Fit.enter_ {M : Int} {b : BS} (h : b.Fit M) (t pc own : Int) : (enterP M b t pc own).2.1.Fit M := by
  unfold enterP
  split
  · exact h
  · split
    · exact h.add _ _ _
    · split <;> exact h.load _ _
theorem BS.Fit.leave_ {M : Int} {b : BS} (h : b.Fit M) (t : Int) : (leaveP M b t).Fit M := by
  unfold leaveP
  split
  · exact h.add _ _ _
  · exact h
theorem BS.Fit.enter_own {M : Int} {b : BS} (h : b.Fit M) (t pc : Int) {own : Int} (hi : InM M own) : InM M (enterP M b t pc own).2.2.2 := by
  unfold enterP
  split
  · exact hi
  · split
    · rename_i hv _
      have hk := (turn_kind h (Decidable.not_not.1 hv)).1
      obtain ⟨_, _, _, hh⟩ := h.ok.cell (k := b.l.ticket) (.inl hk)
      unfold BS.add
      rw [if_pos hk]
      exact hh
    · split <;> exact hi
structure PP where
  c0 : Cf
  w0 : World
  p : Nat
  q : Nat
  F : Nat
  G : Nat
  I : Nat
/-- board and reference's board, registers, who is inside -/
structure PW (tB tW tA tF tG tI : TypeId) (kd : IntKind) (M : Int) (P : PP) (w : World) (γ : Nat → Nat) (b x : BS) (fs gs : List FrS) (ins : List Bool) (m : Nat) : Prop where
  old : Old P.w0 w γ
  brd : BoardAt tB tW tA kd w γ 1 P.p b
  ref : RefAt w γ 4 P.q P.c0 x
  fb : b.Fit M
  fx : x.Fit M
  wd : P.c0.width = 32 ∨ P.c0.width = 64
  hM : M = MW P.c0.width
  len : b.log.length ≤ m ∧ x.log.length ≤ m
  f : Blk w P.F tF (frsCs kd [] fs [])
  fl : γ P.F = 2
  g : Blk w P.G tG (frsCs .u64 [] gs [])
  gl : γ P.G = 5
  i : Blk w P.I tI (ins.map Value.bool).toArray
  il : γ P.I = 3
  own : ∀ (t : Nat) (f : FrS), fs[t]? = some f → InM M f.own
section
variable {tB tW tA tF tG tI : TypeId} {kd : IntKind} {M : Int} {P : PP} {w w' : World} {γ : Nat → Nat} {b x : BS} {fs gs : List FrS} {ins : List Bool} {m : Nat}
theorem PW.below (h : PW tB tW tA tF tG tI kd M P w γ b x fs gs ins m) (hb : Below w.heap.size w w') : PW tB tW tA tF tG tI kd M P w' γ b x fs gs ins m := by
  have h1 : Fr NoId γ γ w w' := Fr.of_below hb _ _
  exact ⟨h.old.fr h1 (fun h => h), h.brd.below hb, h.ref.below hb, h.fb, h.fx, h.wd, h.hM, h.len, h1.block_ h.f (fun h => h), h.fl, h1.block_ h.g (fun h => h), h.gl, h1.block_ h.i (fun h => h), h.il, h.own⟩
theorem PW.drewN (h : PW tB tW tA tF tG tI kd M P w γ b x fs gs ins m) (n : Nat) : PW tB tW tA tF tG tI kd M P (w.drewN n) γ b x fs gs ins m := h.below (below_drewN (Below.refl _ _) n)
theorem PW.alloc (h : PW tB tW tA tF tG tI kd M P w γ b x fs gs ins m) (o : Obj) : PW tB tW tA tF tG tI kd M P (w.alloc o) γ b x fs gs ins m := h.below ((Below.refl _ _).alloc (Nat.le_refl _) o)
theorem PW.setI (h : PW tB tW tA tF tG tI kd M P w γ b x fs gs ins m) (t : Nat) (v : Bool) : PW tB tW tA tF tG tI kd M P (w.setCell ⟨P.I, t, none⟩ (.bool v)) γ b x fs gs (ins.set t v) m := by
  have h1 : Fr (OneId 3) γ γ w (w.setCell ⟨P.I, t, none⟩ (.bool v)) := (Fr.refl _ _ _).setCell (p := ⟨P.I, t, none⟩) (.inr h.il) _
  refine ⟨h.old.fr h1 (by rintro h; cases h), h.brd.fr h1 (by rintro h; cases h), h.ref.fr h1 (by rintro h; cases h), h.fb, h.fx, h.wd, h.hM, h.len, h1.block_ h.f (by rw [h.fl]; rintro h; cases h), h.fl, h1.block_ h.g (by rw [h.gl]; rintro h; cases h), h.gl, ?_, h.il, h.own⟩
  have := h.i.set_ t (.bool v)
  rw [List.setIfInBounds_toArray, ← List.map_set] at this
  exact this
theorem PW.fcell (h : PW tB tW tA tF tG tI kd M P w γ b x fs gs ins m) {t : Nat} {f : FrS} (hf : fs[t]? = some f) (k : Nat) (hk : k < 11) : w.cell? ⟨P.F, t * 11 + k, none⟩ = (f.vs kd)[k]? :=
  (h.f.cell (t * 11 + k)).trans (frs_get (o := t * 11) (pre := []) (show t * 11 = 0 + 11 * t by omega) hf k hk)
theorem PW.gcell (h : PW tB tW tA tF tG tI kd M P w γ b x fs gs ins m) {t : Nat} {f : FrS} (hf : gs[t]? = some f) (k : Nat) (hk : k < 11) : w.cell? ⟨P.G, t * 11 + k, none⟩ = (f.vs .u64)[k]? :=
  (h.g.cell (t * 11 + k)).trans (frs_get (o := t * 11) (pre := []) (show t * 11 = 0 + 11 * t by omega) hf k hk)
theorem PW.setF (h : PW tB tW tA tF tG tI kd M P w γ b x fs gs ins m) {t : Nat} {f f' : FrS} (hf : fs[t]? = some f) (hin : InM M f'.own) (k : Nat) (hk : k < 11) {u : Value} (hu : (f.vs kd).set k u = f'.vs kd) :
    PW tB tW tA tF tG tI kd M P (w.setCell ⟨P.F, t * 11 + k, none⟩ u) γ b x (fs.set t f') gs ins m := by
  have h1 : Fr (OneId 2) γ γ w (w.setCell ⟨P.F, t * 11 + k, none⟩ u) := (Fr.refl _ _ _).setCell (p := ⟨P.F, t * 11 + k, none⟩) (.inr h.fl) _
  refine ⟨h.old.fr h1 (by rintro h; cases h), h.brd.fr h1 (by rintro h; cases h), h.ref.fr h1 (by rintro h; cases h), h.fb, h.fx, h.wd, h.hM, h.len, ?_, h.fl, h1.block_ h.g (by rw [h.gl]; rintro h; cases h), h.gl, h1.block_ h.i (by rw [h.il]; rintro h; cases h), h.il, ?_⟩
  · have := h.f.set_ (t * 11 + k) u
    rw [frs_set (o := t * 11) (pre := []) (f' := f') (show t * 11 = 0 + 11 * t by omega) hf hk hu] at this
    exact this
  · intro u g hg
    rw [List.getElem?_set] at hg
    by_cases he : t = u
    · rw [if_pos he] at hg
      split at hg
      · cases hg; exact hin
      · cases hg
    · rw [if_neg he] at hg; exact h.own u g hg
theorem PW.setG (h : PW tB tW tA tF tG tI kd M P w γ b x fs gs ins m) {t : Nat} {f f' : FrS} (hf : gs[t]? = some f) (k : Nat) (hk : k < 11) {u : Value} (hu : (f.vs .u64).set k u = f'.vs .u64) :
    PW tB tW tA tF tG tI kd M P (w.setCell ⟨P.G, t * 11 + k, none⟩ u) γ b x fs (gs.set t f') ins m := by
  have h1 : Fr (OneId 5) γ γ w (w.setCell ⟨P.G, t * 11 + k, none⟩ u) := (Fr.refl _ _ _).setCell (p := ⟨P.G, t * 11 + k, none⟩) (.inr h.gl) _
  refine ⟨h.old.fr h1 (by rintro h; cases h), h.brd.fr h1 (by rintro h; cases h), h.ref.fr h1 (by rintro h; cases h), h.fb, h.fx, h.wd, h.hM, h.len, h1.block_ h.f (by rw [h.fl]; rintro h; cases h), h.fl, ?_, h.gl, h1.block_ h.i (by rw [h.il]; rintro h; cases h), h.il, h.own⟩
  have := h.g.set_ (t * 11 + k) u
  rw [frs_set (o := t * 11) (pre := []) (f' := f') (show t * 11 = 0 + 11 * t by omega) hf hk hu] at this
  exact this
theorem PW.putF (h : PW tB tW tA tF tG tI kd M P w γ b x fs gs ins m) {t : Nat} {f : FrS} (hf : fs[t]? = some f) (f' : FrS) (hin : InM M f'.own) : PW tB tW tA tF tG tI kd M P (((((((((((w.setCell ⟨P.F, t * 11, none⟩ (.int .i64 f'.op)).setCell ⟨P.F, t * 11 + 1, none⟩ (.int .i64 f'.n)).setCell ⟨P.F, t * 11 + 2, none⟩ (.int .i64 f'.phase)).setCell ⟨P.F, t * 11 + 3, none⟩ (.int .i64 f'.pc)).setCell ⟨P.F, t * 11 + 4, none⟩ (.int .i64 f'.i)).setCell ⟨P.F, t * 11 + 5, none⟩ (.int .i64 f'.j)).setCell ⟨P.F, t * 11 + 6, none⟩ (.int kd f'.from_)).setCell ⟨P.F, t * 11 + 7, none⟩ (.int kd f'.min)).setCell ⟨P.F, t * 11 + 8, none⟩ (.int kd f'.val)).setCell ⟨P.F, t * 11 + 9, none⟩ (.int kd f'.own)).setCell ⟨P.F, t * 11 + 10, none⟩ (.slice f'.da f'.dn f'.dc)) γ b x (fs.set t f') gs ins m := by
  have hl : t < fs.length := (List.getElem?_eq_some_iff.1 hf).1
  have hfo := h.own t f hf
  have a0 := PW.setF (f' := { f with op := f'.op }) h hf (by exact hfo) 0 (by omega) (u := (.int .i64 f'.op)) rfl
  have a1 := PW.setF (f' := { f with op := f'.op, n := f'.n }) a0 (List.getElem?_set_self (by simpa using hl)) (by exact hfo) 1 (by omega) (u := (.int .i64 f'.n)) rfl
  rw [List.set_set] at a1
  have a2 := PW.setF (f' := { f with op := f'.op, n := f'.n, phase := f'.phase }) a1 (List.getElem?_set_self (by simpa using hl)) (by exact hfo) 2 (by omega) (u := (.int .i64 f'.phase)) rfl
  rw [List.set_set] at a2
  have a3 := PW.setF (f' := { f with op := f'.op, n := f'.n, phase := f'.phase, pc := f'.pc }) a2 (List.getElem?_set_self (by simpa using hl)) (by exact hfo) 3 (by omega) (u := (.int .i64 f'.pc)) rfl
  rw [List.set_set] at a3
  have a4 := PW.setF (f' := { f with op := f'.op, n := f'.n, phase := f'.phase, pc := f'.pc, i := f'.i }) a3 (List.getElem?_set_self (by simpa using hl)) (by exact hfo) 4 (by omega) (u := (.int .i64 f'.i)) rfl
  rw [List.set_set] at a4
  have a5 := PW.setF (f' := { f with op := f'.op, n := f'.n, phase := f'.phase, pc := f'.pc, i := f'.i, j := f'.j }) a4 (List.getElem?_set_self (by simpa using hl)) (by exact hfo) 5 (by omega) (u := (.int .i64 f'.j)) rfl
  rw [List.set_set] at a5
  have a6 := PW.setF (f' := { f with op := f'.op, n := f'.n, phase := f'.phase, pc := f'.pc, i := f'.i, j := f'.j, from_ := f'.from_ }) a5 (List.getElem?_set_self (by simpa using hl)) (by exact hfo) 6 (by omega) (u := (.int kd f'.from_)) rfl
  rw [List.set_set] at a6
  have a7 := PW.setF (f' := { f with op := f'.op, n := f'.n, phase := f'.phase, pc := f'.pc, i := f'.i, j := f'.j, from_ := f'.from_, min := f'.min }) a6 (List.getElem?_set_self (by simpa using hl)) (by exact hfo) 7 (by omega) (u := (.int kd f'.min)) rfl
  rw [List.set_set] at a7
  have a8 := PW.setF (f' := { f with op := f'.op, n := f'.n, phase := f'.phase, pc := f'.pc, i := f'.i, j := f'.j, from_ := f'.from_, min := f'.min, val := f'.val }) a7 (List.getElem?_set_self (by simpa using hl)) (by exact hfo) 8 (by omega) (u := (.int kd f'.val)) rfl
  rw [List.set_set] at a8
  have a9 := PW.setF (f' := { f with op := f'.op, n := f'.n, phase := f'.phase, pc := f'.pc, i := f'.i, j := f'.j, from_ := f'.from_, min := f'.min, val := f'.val, own := f'.own }) a8 (List.getElem?_set_self (by simpa using hl)) (by exact hin) 9 (by omega) (u := (.int kd f'.own)) rfl
  rw [List.set_set] at a9
  have a10 := PW.setF (f' := { f with op := f'.op, n := f'.n, phase := f'.phase, pc := f'.pc, i := f'.i, j := f'.j, from_ := f'.from_, min := f'.min, val := f'.val, own := f'.own, da := f'.da, dn := f'.dn, dc := f'.dc }) a9 (List.getElem?_set_self (by simpa using hl)) (by exact hin) 10 (by omega) (u := (.slice f'.da f'.dn f'.dc)) rfl
  rw [List.set_set] at a10
  exact a10
theorem PW.putG (h : PW tB tW tA tF tG tI kd M P w γ b x fs gs ins m) {t : Nat} {f : FrS} (hf : gs[t]? = some f) (f' : FrS) : PW tB tW tA tF tG tI kd M P (((((((((((w.setCell ⟨P.G, t * 11, none⟩ (.int .i64 f'.op)).setCell ⟨P.G, t * 11 + 1, none⟩ (.int .i64 f'.n)).setCell ⟨P.G, t * 11 + 2, none⟩ (.int .i64 f'.phase)).setCell ⟨P.G, t * 11 + 3, none⟩ (.int .i64 f'.pc)).setCell ⟨P.G, t * 11 + 4, none⟩ (.int .i64 f'.i)).setCell ⟨P.G, t * 11 + 5, none⟩ (.int .i64 f'.j)).setCell ⟨P.G, t * 11 + 6, none⟩ (.int .u64 f'.from_)).setCell ⟨P.G, t * 11 + 7, none⟩ (.int .u64 f'.min)).setCell ⟨P.G, t * 11 + 8, none⟩ (.int .u64 f'.val)).setCell ⟨P.G, t * 11 + 9, none⟩ (.int .u64 f'.own)).setCell ⟨P.G, t * 11 + 10, none⟩ (.slice f'.da f'.dn f'.dc)) γ b x fs (gs.set t f') ins m := by
  have hl : t < gs.length := (List.getElem?_eq_some_iff.1 hf).1
  have a0 := PW.setG (f' := { f with op := f'.op }) h hf 0 (by omega) (u := (.int .i64 f'.op)) rfl
  have a1 := PW.setG (f' := { f with op := f'.op, n := f'.n }) a0 (List.getElem?_set_self (by simpa using hl)) 1 (by omega) (u := (.int .i64 f'.n)) rfl
  rw [List.set_set] at a1
  have a2 := PW.setG (f' := { f with op := f'.op, n := f'.n, phase := f'.phase }) a1 (List.getElem?_set_self (by simpa using hl)) 2 (by omega) (u := (.int .i64 f'.phase)) rfl
  rw [List.set_set] at a2
  have a3 := PW.setG (f' := { f with op := f'.op, n := f'.n, phase := f'.phase, pc := f'.pc }) a2 (List.getElem?_set_self (by simpa using hl)) 3 (by omega) (u := (.int .i64 f'.pc)) rfl
  rw [List.set_set] at a3
  have a4 := PW.setG (f' := { f with op := f'.op, n := f'.n, phase := f'.phase, pc := f'.pc, i := f'.i }) a3 (List.getElem?_set_self (by simpa using hl)) 4 (by omega) (u := (.int .i64 f'.i)) rfl
  rw [List.set_set] at a4
  have a5 := PW.setG (f' := { f with op := f'.op, n := f'.n, phase := f'.phase, pc := f'.pc, i := f'.i, j := f'.j }) a4 (List.getElem?_set_self (by simpa using hl)) 5 (by omega) (u := (.int .i64 f'.j)) rfl
  rw [List.set_set] at a5
  have a6 := PW.setG (f' := { f with op := f'.op, n := f'.n, phase := f'.phase, pc := f'.pc, i := f'.i, j := f'.j, from_ := f'.from_ }) a5 (List.getElem?_set_self (by simpa using hl)) 6 (by omega) (u := (.int .u64 f'.from_)) rfl
  rw [List.set_set] at a6
  have a7 := PW.setG (f' := { f with op := f'.op, n := f'.n, phase := f'.phase, pc := f'.pc, i := f'.i, j := f'.j, from_ := f'.from_, min := f'.min }) a6 (List.getElem?_set_self (by simpa using hl)) 7 (by omega) (u := (.int .u64 f'.min)) rfl
  rw [List.set_set] at a7
  have a8 := PW.setG (f' := { f with op := f'.op, n := f'.n, phase := f'.phase, pc := f'.pc, i := f'.i, j := f'.j, from_ := f'.from_, min := f'.min, val := f'.val }) a7 (List.getElem?_set_self (by simpa using hl)) 8 (by omega) (u := (.int .u64 f'.val)) rfl
  rw [List.set_set] at a8
  have a9 := PW.setG (f' := { f with op := f'.op, n := f'.n, phase := f'.phase, pc := f'.pc, i := f'.i, j := f'.j, from_ := f'.from_, min := f'.min, val := f'.val, own := f'.own }) a8 (List.getElem?_set_self (by simpa using hl)) 9 (by omega) (u := (.int .u64 f'.own)) rfl
  rw [List.set_set] at a9
  have a10 := PW.setG (f' := { f with op := f'.op, n := f'.n, phase := f'.phase, pc := f'.pc, i := f'.i, j := f'.j, from_ := f'.from_, min := f'.min, val := f'.val, own := f'.own, da := f'.da, dn := f'.dn, dc := f'.dc }) a9 (List.getElem?_set_self (by simpa using hl)) 10 (by omega) (u := (.slice f'.da f'.dn f'.dc)) rfl
  rw [List.set_set] at a10
  exact a10
theorem PW.fill (h : PW tB tW tA tF tG tI kd M P w γ b x fs gs ins m) : P.F < w.heap.size ∧ P.G < w.heap.size ∧ P.I < w.heap.size := ⟨h.f.lt, h.g.lt, h.i.lt⟩
end
section
variable {P : PP} {w w' : World} {γ : Nat → Nat} {b x : BS} {fs gs : List FrS} {ins : List Bool} {m : Nat}
theorem pw_enter32 (h : PW 134 31 110 73 76 77 .u32 M32 P w γ b x fs gs ins m) (hm : m ≤ 1000000) (t : Nat) (f : FrS) (hf : fs[t]? = some f) :
    Calls Tryz.prog 26 #[.pointer (some ⟨P.p, 0, none⟩), .int .i64 t, .pointer (some ⟨P.F, t * 11, none⟩)] w fun e w' => e = .returned (.bool (enterP M32 b t f.pc f.own).1) ∧
      ∃ γ', PW 134 31 110 73 76 77 .u32 M32 P w' γ' (enterP M32 b t f.pc f.own).2.1 x (fs.set t { f with pc := (enterP M32 b t f.pc f.own).2.2.1, own := (enterP M32 b t f.pc f.own).2.2.2 }) gs ins (m + 1) := by
  have ho : t * 11 = 0 + 11 * t := by omega
  have hq := tEnter32 w γ 1 2 P.p b h.brd h.fb.ok (by have := h.len; omega) t P.F (t * 11) _ _ h.f h.fl (by decide) f.pc f.own (frs_get (pre := []) ho hf 3 (by omega)) (frs_get (pre := []) ho hf 9 (by omega))
  refine hq.mono ?_
  rintro e w' ⟨rfl, γ', hB, hF, hfr⟩
  have hl := enterP_log M32 b t f.pc f.own
  have hown := h.fb.enter_own t f.pc (h.own t f hf)
  refine ⟨rfl, γ', h.old.fr hfr (by rintro (h | h) <;> cases h), hB, h.ref.fr hfr (by rintro (h | h) <;> cases h), h.fb.enter_ _ _ _, h.fx, h.wd, h.hM, ⟨by have := h.len; omega, by have := h.len; omega⟩, ?_, (hfr.lab _ h.f.lt).trans h.fl, hfr.block_ h.g ?_, (hfr.lab _ h.g.lt).trans h.gl, hfr.block_ h.i ?_, (hfr.lab _ h.i.lt).trans h.il, ?_⟩
  · rw [frs_set (pre := []) (f' := { f with own := (enterP M32 b t f.pc f.own).2.2.2 }) ho hf (by omega) rfl] at hF
    rw [frs_set (pre := []) (f' := { f with pc := (enterP M32 b t f.pc f.own).2.2.1, own := (enterP M32 b t f.pc f.own).2.2.2 }) ho (List.getElem?_set_self (List.getElem?_eq_some_iff.1 hf).1) (by omega) rfl, List.set_set] at hF
    exact hF
  · rw [h.gl]; rintro (h | h) <;> cases h
  · rw [h.il]; rintro (h | h) <;> cases h
  · intro u g hg
    rw [List.getElem?_set] at hg
    by_cases he : t = u
    · rw [if_pos he] at hg
      split at hg
      · cases hg; exact hown
      · cases hg
    · rw [if_neg he] at hg; exact h.own u g hg
theorem pw_renter32 (h : PW 134 31 110 73 76 77 .u32 M32 P w γ b x fs gs ins m) (hm : m ≤ 1000000) (t : Int) (f : FrS) :
    Calls Tryz.prog 33 #[.pointer (some ⟨P.q, 0, none⟩), .int .i64 t, .agg (f.vs .u64).toArray] w fun e w' => e = .returned (.tuple #[.agg (FrS.vs .u64 { f with pc := (enterP M32 x t f.pc f.own).2.2.1, own := (enterP M32 x t f.pc f.own).2.2.2 }).toArray, .bool (enterP M32 x t f.pc f.own).1]) ∧
      ∃ γ', PW 134 31 110 73 76 77 .u32 M32 P w' γ' b (enterP M32 x t f.pc f.own).2.1 fs gs ins (m + 1) := by
  refine (r18Enter w γ 4 P.q P.c0 x h.ref h.fx (by have := h.len; omega) h.wd h.hM t f).mono ?_
  rintro e w' ⟨rfl, γ', hB, hfr⟩
  have hl := enterP_log M32 x t f.pc f.own
  refine ⟨rfl, γ', h.old.fr hfr (by rintro h; cases h), h.brd.fr hfr (by rintro h; cases h), hB, h.fb, h.fx.enter_ _ _ _, h.wd, h.hM, ⟨by have := h.len; omega, by have := h.len; omega⟩, hfr.block_ h.f ?_, (hfr.lab _ h.f.lt).trans h.fl, hfr.block_ h.g ?_, (hfr.lab _ h.g.lt).trans h.gl, hfr.block_ h.i ?_, (hfr.lab _ h.i.lt).trans h.il, h.own⟩
  · rw [h.fl]; rintro h; cases h
  · rw [h.gl]; rintro h; cases h
  · rw [h.il]; rintro h; cases h
theorem pw_leave32 (h : PW 134 31 110 73 76 77 .u32 M32 P w γ b x fs gs ins m) (hm : m ≤ 1000000) (t : Int) :
    Calls Tryz.prog 28 #[.pointer (some ⟨P.p, 0, none⟩), .int .i64 t] w fun e w' => e = .returned (.tuple #[]) ∧ ∃ γ', PW 134 31 110 73 76 77 .u32 M32 P w' γ' (leaveP M32 b t) x fs gs ins (m + 1) := by
  refine (tLeave32 w γ 1 P.p b h.brd h.fb.ok (by have := h.len; omega) t).mono ?_
  rintro e w' ⟨rfl, γ', hB, hfr⟩
  have hl := leaveP_log M32 b t
  refine ⟨rfl, γ', h.old.fr hfr (by rintro h; cases h), hB, h.ref.fr hfr (by rintro h; cases h), h.fb.leave_ _, h.fx, h.wd, h.hM, ⟨by have := h.len; omega, by have := h.len; omega⟩, hfr.block_ h.f ?_, (hfr.lab _ h.f.lt).trans h.fl, hfr.block_ h.g ?_, (hfr.lab _ h.g.lt).trans h.gl, hfr.block_ h.i ?_, (hfr.lab _ h.i.lt).trans h.il, h.own⟩
  · rw [h.fl]; rintro h; cases h
  · rw [h.gl]; rintro h; cases h
  · rw [h.il]; rintro h; cases h
theorem pw_rleave32 (h : PW 134 31 110 73 76 77 .u32 M32 P w γ b x fs gs ins m) (hm : m ≤ 1000000) (t : Int) :
    Calls Tryz.prog 32 #[.pointer (some ⟨P.q, 0, none⟩), .int .i64 t] w fun e w' => e = .returned (.tuple #[]) ∧ ∃ γ', PW 134 31 110 73 76 77 .u32 M32 P w' γ' b (leaveP M32 x t) fs gs ins (m + 1) := by
  refine (r18Leave w γ 4 P.q P.c0 x h.ref h.fx (by have := h.len; omega) h.wd h.hM t).mono ?_
  rintro e w' ⟨rfl, γ', hB, hfr⟩
  have hl := leaveP_log M32 x t
  refine ⟨rfl, γ', h.old.fr hfr (by rintro h; cases h), h.brd.fr hfr (by rintro h; cases h), hB, h.fb, h.fx.leave_ _, h.wd, h.hM, ⟨by have := h.len; omega, by have := h.len; omega⟩, hfr.block_ h.f ?_, (hfr.lab _ h.f.lt).trans h.fl, hfr.block_ h.g ?_, (hfr.lab _ h.g.lt).trans h.gl, hfr.block_ h.i ?_, (hfr.lab _ h.i.lt).trans h.il, h.own⟩
  · rw [h.fl]; rintro h; cases h
  · rw [h.gl]; rintro h; cases h
  · rw [h.il]; rintro h; cases h
theorem pw_wait32 (h : PW 134 31 110 73 76 77 .u32 M32 P w γ b x fs gs ins m) :
    Calls Tryz.prog 27 #[.pointer (some ⟨P.p, 0, none⟩)] w fun e w' => e = .returned (.int .i64 (waitingP M32 b)) ∧ PW 134 31 110 73 76 77 .u32 M32 P w' γ b x fs gs ins m :=
  (tWaiting32 w γ 1 P.p b h.brd h.fb.ok (fun hv => turn_kind h.fb hv)).mono fun _ _ ⟨he, hb⟩ => ⟨he, h.below hb⟩
theorem pw_rwait32 (h : PW 134 31 110 73 76 77 .u32 M32 P w γ b x fs gs ins m) :
    Calls Tryz.prog 34 #[.pointer (some ⟨P.q, 0, none⟩)] w fun e w' => e = .returned (.int .i64 (waitingP M32 x)) ∧ PW 134 31 110 73 76 77 .u32 M32 P w' γ b x fs gs ins m :=
  (r18Waiting w γ 4 P.q P.c0 x h.ref h.fx h.wd h.hM).mono fun _ _ ⟨he, n, hn⟩ => ⟨he, h.below (by subst hn; exact below_drewN (Below.refl _ _) _)⟩
theorem pw_start32 {w0 w5 : World} {γ5 : Nat → Nat} {p q : Nat} {c0 : Cf} {b : BS} (hO : Old w0 w5 γ5) (hB : BoardAt 134 31 110 .u32 w5 γ5 1 p b) (hR : RefAt w5 γ5 4 q c0 b) (hf : b.Fit M32) (hwd : c0.width = 32 ∨ c0.width = 64) (hM : M32 = MW c0.width) (hlog : b.log.length = 0) :
    ∃ γ, PW 134 31 110 73 76 77 .u32 M32 ⟨c0, w0, p, q, w5.heap.size, w5.heap.size + 1, w5.heap.size + 1 + 1⟩ (((w5.alloc (.cells (frsCs .u32 [] (List.replicate 4 {}) []) 73)).alloc (.cells (frsCs .u64 [] (List.replicate 4 {}) []) 76)).alloc (.cells ((List.replicate 4 false).map Value.bool).toArray 77)) γ b b (List.replicate 4 {}) (List.replicate 4 {}) (List.replicate 4 false) 0 := by
  have hfr : Fr NoId γ5 γ5 w5 (((w5.alloc (.cells (frsCs .u32 [] (List.replicate 4 {}) []) 73)).alloc (.cells (frsCs .u64 [] (List.replicate 4 {}) []) 76)).alloc (.cells ((List.replicate 4 false).map Value.bool).toArray 77)) := (((Fr.refl _ _ _).alloc _).alloc _).alloc _
  have hr := hfr.relabel (fun k => if k = w5.heap.size then 2 else if k = w5.heap.size + 1 then 5 else 3)
  refine ⟨_, hO.fr hr (fun h => h), hB.fr hr (fun h => h), hR.fr hr (fun h => h), hf, hf, hwd, hM, by omega, ((Blk.new w5 _ _).alloc _).alloc _, ?_, ?_, ?_, ?_, ?_, ?_⟩
  · show (if w5.heap.size < w5.heap.size then _ else if w5.heap.size = w5.heap.size then _ else _) = 2
    rw [if_neg (by omega), if_pos rfl]
  · have := (Blk.new (w5.alloc (.cells (frsCs .u32 [] (List.replicate 4 {}) []) 73)) 76 (frsCs .u64 [] (List.replicate 4 {}) [])).alloc (.cells ((List.replicate 4 false).map Value.bool).toArray 77)
    simpa using this
  · show (if w5.heap.size + 1 < w5.heap.size then _ else if w5.heap.size + 1 = w5.heap.size then _ else if w5.heap.size + 1 = w5.heap.size + 1 then _ else _) = 5
    rw [if_neg (by omega), if_neg (by omega), if_pos rfl]
  · have := Blk.new ((w5.alloc (.cells (frsCs .u32 [] (List.replicate 4 {}) []) 73)).alloc (.cells (frsCs .u64 [] (List.replicate 4 {}) []) 76)) 77 ((List.replicate 4 false).map Value.bool).toArray
    simpa using this
  · show (if w5.heap.size + 1 + 1 < w5.heap.size then _ else if w5.heap.size + 1 + 1 = w5.heap.size then _ else if w5.heap.size + 1 + 1 = w5.heap.size + 1 then _ else _) = 3
    rw [if_neg (by omega), if_neg (by omega), if_neg (by omega)]
  · intro t f hf'
    have := (List.mem_replicate.1 (List.mem_of_getElem? hf')).2
    subst this
    have hm := hf.M2
    show InM _ 0
    rcases hm with hm | hm <;> (rw [hm]; first | exact ⟨by decide, by decide⟩)
end
section
variable {P : PP} {w w' : World} {γ : Nat → Nat} {b x : BS} {fs gs : List FrS} {ins : List Bool} {m : Nat}
theorem pw_enter64 (h : PW 97 22 110 86 76 77 .u64 M64 P w γ b x fs gs ins m) (hm : m ≤ 1000000) (t : Nat) (f : FrS) (hf : fs[t]? = some f) :
    Calls Tryz.prog 39 #[.pointer (some ⟨P.p, 0, none⟩), .int .i64 t, .pointer (some ⟨P.F, t * 11, none⟩)] w fun e w' => e = .returned (.bool (enterP M64 b t f.pc f.own).1) ∧
      ∃ γ', PW 97 22 110 86 76 77 .u64 M64 P w' γ' (enterP M64 b t f.pc f.own).2.1 x (fs.set t { f with pc := (enterP M64 b t f.pc f.own).2.2.1, own := (enterP M64 b t f.pc f.own).2.2.2 }) gs ins (m + 1) := by
  have ho : t * 11 = 0 + 11 * t := by omega
  have hq := tEnter64 w γ 1 2 P.p b h.brd h.fb.ok (by have := h.len; omega) t P.F (t * 11) _ _ h.f h.fl (by decide) f.pc f.own (frs_get (pre := []) ho hf 3 (by omega)) (frs_get (pre := []) ho hf 9 (by omega))
  refine hq.mono ?_
  rintro e w' ⟨rfl, γ', hB, hF, hfr⟩
  have hl := enterP_log M64 b t f.pc f.own
  have hown := h.fb.enter_own t f.pc (h.own t f hf)
  refine ⟨rfl, γ', h.old.fr hfr (by rintro (h | h) <;> cases h), hB, h.ref.fr hfr (by rintro (h | h) <;> cases h), h.fb.enter_ _ _ _, h.fx, h.wd, h.hM, ⟨by have := h.len; omega, by have := h.len; omega⟩, ?_, (hfr.lab _ h.f.lt).trans h.fl, hfr.block_ h.g ?_, (hfr.lab _ h.g.lt).trans h.gl, hfr.block_ h.i ?_, (hfr.lab _ h.i.lt).trans h.il, ?_⟩
  · rw [frs_set (pre := []) (f' := { f with own := (enterP M64 b t f.pc f.own).2.2.2 }) ho hf (by omega) rfl] at hF
    rw [frs_set (pre := []) (f' := { f with pc := (enterP M64 b t f.pc f.own).2.2.1, own := (enterP M64 b t f.pc f.own).2.2.2 }) ho (List.getElem?_set_self (List.getElem?_eq_some_iff.1 hf).1) (by omega) rfl, List.set_set] at hF
    exact hF
  · rw [h.gl]; rintro (h | h) <;> cases h
  · rw [h.il]; rintro (h | h) <;> cases h
  · intro u g hg
    rw [List.getElem?_set] at hg
    by_cases he : t = u
    · rw [if_pos he] at hg
      split at hg
      · cases hg; exact hown
      · cases hg
    · rw [if_neg he] at hg; exact h.own u g hg
theorem pw_renter64 (h : PW 97 22 110 86 76 77 .u64 M64 P w γ b x fs gs ins m) (hm : m ≤ 1000000) (t : Int) (f : FrS) :
    Calls Tryz.prog 33 #[.pointer (some ⟨P.q, 0, none⟩), .int .i64 t, .agg (f.vs .u64).toArray] w fun e w' => e = .returned (.tuple #[.agg (FrS.vs .u64 { f with pc := (enterP M64 x t f.pc f.own).2.2.1, own := (enterP M64 x t f.pc f.own).2.2.2 }).toArray, .bool (enterP M64 x t f.pc f.own).1]) ∧
      ∃ γ', PW 97 22 110 86 76 77 .u64 M64 P w' γ' b (enterP M64 x t f.pc f.own).2.1 fs gs ins (m + 1) := by
  refine (r18Enter w γ 4 P.q P.c0 x h.ref h.fx (by have := h.len; omega) h.wd h.hM t f).mono ?_
  rintro e w' ⟨rfl, γ', hB, hfr⟩
  have hl := enterP_log M64 x t f.pc f.own
  refine ⟨rfl, γ', h.old.fr hfr (by rintro h; cases h), h.brd.fr hfr (by rintro h; cases h), hB, h.fb, h.fx.enter_ _ _ _, h.wd, h.hM, ⟨by have := h.len; omega, by have := h.len; omega⟩, hfr.block_ h.f ?_, (hfr.lab _ h.f.lt).trans h.fl, hfr.block_ h.g ?_, (hfr.lab _ h.g.lt).trans h.gl, hfr.block_ h.i ?_, (hfr.lab _ h.i.lt).trans h.il, h.own⟩
  · rw [h.fl]; rintro h; cases h
  · rw [h.gl]; rintro h; cases h
  · rw [h.il]; rintro h; cases h
theorem pw_leave64 (h : PW 97 22 110 86 76 77 .u64 M64 P w γ b x fs gs ins m) (hm : m ≤ 1000000) (t : Int) :
    Calls Tryz.prog 38 #[.pointer (some ⟨P.p, 0, none⟩), .int .i64 t] w fun e w' => e = .returned (.tuple #[]) ∧ ∃ γ', PW 97 22 110 86 76 77 .u64 M64 P w' γ' (leaveP M64 b t) x fs gs ins (m + 1) := by
  refine (tLeave64 w γ 1 P.p b h.brd h.fb.ok (by have := h.len; omega) t).mono ?_
  rintro e w' ⟨rfl, γ', hB, hfr⟩
  have hl := leaveP_log M64 b t
  refine ⟨rfl, γ', h.old.fr hfr (by rintro h; cases h), hB, h.ref.fr hfr (by rintro h; cases h), h.fb.leave_ _, h.fx, h.wd, h.hM, ⟨by have := h.len; omega, by have := h.len; omega⟩, hfr.block_ h.f ?_, (hfr.lab _ h.f.lt).trans h.fl, hfr.block_ h.g ?_, (hfr.lab _ h.g.lt).trans h.gl, hfr.block_ h.i ?_, (hfr.lab _ h.i.lt).trans h.il, h.own⟩
  · rw [h.fl]; rintro h; cases h
  · rw [h.gl]; rintro h; cases h
  · rw [h.il]; rintro h; cases h
theorem pw_rleave64 (h : PW 97 22 110 86 76 77 .u64 M64 P w γ b x fs gs ins m) (hm : m ≤ 1000000) (t : Int) :
    Calls Tryz.prog 32 #[.pointer (some ⟨P.q, 0, none⟩), .int .i64 t] w fun e w' => e = .returned (.tuple #[]) ∧ ∃ γ', PW 97 22 110 86 76 77 .u64 M64 P w' γ' b (leaveP M64 x t) fs gs ins (m + 1) := by
  refine (r18Leave w γ 4 P.q P.c0 x h.ref h.fx (by have := h.len; omega) h.wd h.hM t).mono ?_
  rintro e w' ⟨rfl, γ', hB, hfr⟩
  have hl := leaveP_log M64 x t
  refine ⟨rfl, γ', h.old.fr hfr (by rintro h; cases h), h.brd.fr hfr (by rintro h; cases h), hB, h.fb, h.fx.leave_ _, h.wd, h.hM, ⟨by have := h.len; omega, by have := h.len; omega⟩, hfr.block_ h.f ?_, (hfr.lab _ h.f.lt).trans h.fl, hfr.block_ h.g ?_, (hfr.lab _ h.g.lt).trans h.gl, hfr.block_ h.i ?_, (hfr.lab _ h.i.lt).trans h.il, h.own⟩
  · rw [h.fl]; rintro h; cases h
  · rw [h.gl]; rintro h; cases h
  · rw [h.il]; rintro h; cases h
theorem pw_wait64 (h : PW 97 22 110 86 76 77 .u64 M64 P w γ b x fs gs ins m) :
    Calls Tryz.prog 40 #[.pointer (some ⟨P.p, 0, none⟩)] w fun e w' => e = .returned (.int .i64 (waitingP M64 b)) ∧ PW 97 22 110 86 76 77 .u64 M64 P w' γ b x fs gs ins m :=
  (tWaiting64 w γ 1 P.p b h.brd h.fb.ok (fun hv => turn_kind h.fb hv)).mono fun _ _ ⟨he, hb⟩ => ⟨he, h.below hb⟩
theorem pw_rwait64 (h : PW 97 22 110 86 76 77 .u64 M64 P w γ b x fs gs ins m) :
    Calls Tryz.prog 34 #[.pointer (some ⟨P.q, 0, none⟩)] w fun e w' => e = .returned (.int .i64 (waitingP M64 x)) ∧ PW 97 22 110 86 76 77 .u64 M64 P w' γ b x fs gs ins m :=
  (r18Waiting w γ 4 P.q P.c0 x h.ref h.fx h.wd h.hM).mono fun _ _ ⟨he, n, hn⟩ => ⟨he, h.below (by subst hn; exact below_drewN (Below.refl _ _) _)⟩
theorem pw_start64 {w0 w5 : World} {γ5 : Nat → Nat} {p q : Nat} {c0 : Cf} {b : BS} (hO : Old w0 w5 γ5) (hB : BoardAt 97 22 110 .u64 w5 γ5 1 p b) (hR : RefAt w5 γ5 4 q c0 b) (hf : b.Fit M64) (hwd : c0.width = 32 ∨ c0.width = 64) (hM : M64 = MW c0.width) (hlog : b.log.length = 0) :
    ∃ γ, PW 97 22 110 86 76 77 .u64 M64 ⟨c0, w0, p, q, w5.heap.size, w5.heap.size + 1, w5.heap.size + 1 + 1⟩ (((w5.alloc (.cells (frsCs .u64 [] (List.replicate 4 {}) []) 86)).alloc (.cells (frsCs .u64 [] (List.replicate 4 {}) []) 76)).alloc (.cells ((List.replicate 4 false).map Value.bool).toArray 77)) γ b b (List.replicate 4 {}) (List.replicate 4 {}) (List.replicate 4 false) 0 := by
  have hfr : Fr NoId γ5 γ5 w5 (((w5.alloc (.cells (frsCs .u64 [] (List.replicate 4 {}) []) 86)).alloc (.cells (frsCs .u64 [] (List.replicate 4 {}) []) 76)).alloc (.cells ((List.replicate 4 false).map Value.bool).toArray 77)) := (((Fr.refl _ _ _).alloc _).alloc _).alloc _
  have hr := hfr.relabel (fun k => if k = w5.heap.size then 2 else if k = w5.heap.size + 1 then 5 else 3)
  refine ⟨_, hO.fr hr (fun h => h), hB.fr hr (fun h => h), hR.fr hr (fun h => h), hf, hf, hwd, hM, by omega, ((Blk.new w5 _ _).alloc _).alloc _, ?_, ?_, ?_, ?_, ?_, ?_⟩
  · show (if w5.heap.size < w5.heap.size then _ else if w5.heap.size = w5.heap.size then _ else _) = 2
    rw [if_neg (by omega), if_pos rfl]
  · have := (Blk.new (w5.alloc (.cells (frsCs .u64 [] (List.replicate 4 {}) []) 86)) 76 (frsCs .u64 [] (List.replicate 4 {}) [])).alloc (.cells ((List.replicate 4 false).map Value.bool).toArray 77)
    simpa using this
  · show (if w5.heap.size + 1 < w5.heap.size then _ else if w5.heap.size + 1 = w5.heap.size then _ else if w5.heap.size + 1 = w5.heap.size + 1 then _ else _) = 5
    rw [if_neg (by omega), if_neg (by omega), if_pos rfl]
  · have := Blk.new ((w5.alloc (.cells (frsCs .u64 [] (List.replicate 4 {}) []) 86)).alloc (.cells (frsCs .u64 [] (List.replicate 4 {}) []) 76)) 77 ((List.replicate 4 false).map Value.bool).toArray
    simpa using this
  · show (if w5.heap.size + 1 + 1 < w5.heap.size then _ else if w5.heap.size + 1 + 1 = w5.heap.size then _ else if w5.heap.size + 1 + 1 = w5.heap.size + 1 then _ else _) = 3
    rw [if_neg (by omega), if_neg (by omega), if_neg (by omega)]
  · intro t f hf'
    have := (List.mem_replicate.1 (List.mem_of_getElem? hf')).2
    subst this
    have hm := hf.M2
    show InM _ 0
    rcases hm with hm | hm <;> (rw [hm]; first | exact ⟨by decide, by decide⟩)
end
end Go.Proofs.YtmjpdojecdnkjaaGreat
