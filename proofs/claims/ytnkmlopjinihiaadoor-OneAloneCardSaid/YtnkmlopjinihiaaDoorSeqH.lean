/- Things added one by one; a run of a sequencer of one producer keeps its board in order; small helpers of the harnesses. No program is walked. -/
import Derived.Test.YtnkmlopjinihiaaDoorSeqP
import Derived.Test.YtnkmlopjinihiaaDoorTurnP
namespace Go.Proofs.YtnkmlopjinihiaaDoor
open Go.RowKit
set_option linter.unusedVariables false
set_option linter.unusedSimpArgs false

/-! Things added one by one: events, a sequencer, registers; a run of a sequencer of one producer keeps its board in order. No program is walked. -/

theorem its_add {B0 w w' : World} {γ0 γ : Nat → Nat} {S : Nat → Prop} {L : List It} (h : Its B0 γ0 S L w γ) (hb : Below w.heap.size w w') (y : It) (hy : y.P w' (Lab w γ y.id)) (h0 : y.id ≠ 0) (hn : ∀ x ∈ L, x.id ≠ y.id) : Its B0 γ0 S (L ++ [y]) w' (Lab w γ y.id) :=
  h.add ((Fr.of_below hb NoId γ).relabel _) hy h0 hn
section
variable {tB tW tA tL tE T TS : TypeId} {kd : IntKind} {B0 w w' : World} {γ0 γ : Nat → Nat} {S : Nat → Prop} {p lg g : Nat} {b : BS} {ev : List Ev} {q : SqC} {next least : Int}
theorem its_B (h : Old B0 w γ) (hB : BoardAt tB tW tA kd w γ 1 p b) : Its B0 (fun _ => 0) NoId [itB tB tW tA kd 1 p b] w γ :=
  ⟨h.bel.os, h.bel.tape, h.bel.output, h.bel.size, fun b hb _ => ⟨h.bel.block b hb, h.lab b hb⟩, fun _ _ h => h.elim, fun y hy => by rw [List.mem_singleton.1 hy]; exact hB, fun y hy => by rw [List.mem_singleton.1 hy]; exact (by decide : (1 : Nat) ≠ 0), by simp⟩
theorem its_BL (h : Its B0 γ0 S [itB tB tW tA kd 1 p b] w γ) (hb : Below w.heap.size w w') (hl : ∀ γ id, LogAt tL tE w' (Lab w γ id) id lg []) : ∃ γ', Its B0 γ0 S [itB tB tW tA kd 1 p b, itL tL tE 2 lg []] w' γ' :=
  ⟨_, its_add h hb (itL tL tE 2 lg []) (hl γ 2) (by show (2 : Nat) ≠ 0; decide) (fun x hx => by rw [List.mem_singleton.1 hx]; show (1 : Nat) ≠ 2; decide)⟩
theorem its_BLS (h : Its B0 γ0 S [itB tB tW tA kd 1 p b, itL tL tE 2 lg ev] w γ) (hb : Below w.heap.size w w') (hs : ∀ γ id, Seq1At TS kd w' (Lab w γ id) id g p lg q next least) : ∃ γ', Its B0 γ0 S [itB tB tW tA kd 1 p b, itL tL tE 2 lg ev, itS1 TS kd 3 g p lg q next least] w' γ' :=
  ⟨_, its_add h hb (itS1 TS kd 3 g p lg q next least) (hs γ 3) (by show (3 : Nat) ≠ 0; decide) (fun x hx => by
    rcases List.mem_cons.1 hx with rfl | hx
    · show (1 : Nat) ≠ 3; decide
    · rw [List.mem_singleton.1 hx]; show (2 : Nat) ≠ 3; decide)⟩
/-- one more block, known whole -/
theorem its_K {a b c : It} (h : Its B0 γ0 S [a, b, c] w γ) (ha : a.id = 1) (hb : b.id = 2) (hc : c.id = 3) (cs : Array Value) : ∃ γ', Its B0 γ0 S [a, b, c, itK 4 w.heap.size T cs] (w.alloc (.cells cs T)) γ' :=
  ⟨_, h.box 4 T cs (by decide) (fun x hx => by
    rcases List.mem_cons.1 hx with rfl | hx
    · rw [ha]; decide
    · rcases List.mem_cons.1 hx with rfl | hx
      · rw [hb]; decide
      · rw [List.mem_singleton.1 hx, hc]; decide)⟩
end
theorem its_K5 {B0 w : World} {γ0 γ : Nat → Nat} {S : Nat → Prop} {T : TypeId} {a b c d : It} (h : Its B0 γ0 S [a, b, c, d] w γ) (ha : a.id = 1) (hb : b.id = 2) (hc : c.id = 3) (hd : d.id = 4) (cs : Array Value) : ∃ γ', Its B0 γ0 S [a, b, c, itK 5 w.heap.size T cs, d] (w.alloc (.cells cs T)) γ' := by
  have h1 := h.box 5 T cs (by decide) (fun x hx => by
    simp only [List.mem_cons, List.not_mem_nil, or_false] at hx
    rcases hx with rfl | rfl | rfl | rfl
    · rw [ha]; decide
    · rw [hb]; decide
    · rw [hc]; decide
    · rw [hd]; decide)
  exact ⟨_, h1.forget (fun x hx => by simp only [List.mem_cons, List.not_mem_nil, or_false, List.mem_append, List.cons_append, List.nil_append] at hx ⊢; rcases hx with rfl | rfl | rfl | rfl | rfl <;> simp) (by simp only [List.map_cons, List.map_nil, ha, hb, hc, hd]; show [1, 2, 3, 5, 4].Nodup; decide)⟩
theorem its_K6 {B0 w : World} {γ0 γ : Nat → Nat} {S : Nat → Prop} {T : TypeId} {a b c d e : It} (h : Its B0 γ0 S [a, b, c, d, e] w γ) (ha : a.id = 1) (hb : b.id = 2) (hc : c.id = 3) (hd : d.id = 5) (he : e.id = 4) (cs : Array Value) : ∃ γ', Its B0 γ0 S [a, b, c, itK 6 w.heap.size T cs, d, e] (w.alloc (.cells cs T)) γ' := by
  have h1 := h.box 6 T cs (by decide) (fun x hx => by
    simp only [List.mem_cons, List.not_mem_nil, or_false] at hx
    rcases hx with rfl | rfl | rfl | rfl | rfl
    · rw [ha]; decide
    · rw [hb]; decide
    · rw [hc]; decide
    · rw [hd]; decide
    · rw [he]; decide)
  exact ⟨_, h1.forget (fun x hx => by simp only [List.mem_cons, List.not_mem_nil, or_false, List.mem_append, List.cons_append, List.nil_append] at hx ⊢; rcases hx with rfl | rfl | rfl | rfl | rfl | rfl <;> simp) (by simp only [List.map_cons, List.map_nil, ha, hb, hc, hd, he]; show [1, 2, 3, 6, 5, 4].Nodup; decide)⟩
/-- where a law's things lie: one thread's registers, labelled i -/
def qp1 (i : Nat) (T : TypeId) (p lg g F : Nat) : QP := { T := T, p := p, lg := lg, g := g, fb := F, o := 0, t := 0, pre := [], post := [], fs := [{}], ib := 1, il := 2, is_ := 3, ifr := i, ho := rfl, ht := by decide }
theorem nb_base {w W w4 : World} {γ0 γ4 : Nat → Nat} {S : Nat → Prop} {L : List It} {Bk : Nat → Prop} {A : Option Addr} {up : List (List Int)} (h : Its W γ0 S L w4 γ4) (hw : Below w.heap.size w W) (hB : ∀ b, Bk b → b < W.heap.size) (hU : UpAt W Bk A up) :
    ∃ B0, Its B0 γ0 S L w4 γ4 ∧ Below w.heap.size w B0 ∧ (∀ b, Bk b → b < B0.heap.size) ∧ UpAt B0 Bk A up := ⟨W, h, hw, hB, hU⟩
def pick {α : Type} (k : Nat) (a b : α) : α := if k = 0 then a else b
/-- a run's state: in order, and not too long -/
structure St1 (M : Int) (q : SqC) (n : Nat) (s : Sq1) : Prop where
  fit : s.b.Fit M
  next : InM M s.next
  log : s.b.log.length ≤ n
  ev : s.ev.length ≤ 2 * n
  ends : q.ends.length ≤ 6
section
variable {M : Int} {q : SqC} {n : Nat} {s : Sq1} {f : FrS}
theorem St1.mono {m : Nat} (h : St1 M q n s) (hm : n ≤ m) : St1 M q m s := ⟨h.fit, h.next, by have := h.log; omega, by have := h.ev; omega, h.ends⟩
theorem St1.grant (h : St1 M q n s) (t : Int) (f : FrS) : St1 M q (n + 1) (grant1 M t s f).2.1 :=
  ⟨h.fit, addM_in h.fit.M2 _ _, by have := h.log; show s.b.log.length ≤ _; omega, by have := h.ev; simp [grant1]; omega, h.ends⟩
theorem St1.scanned (h : St1 M q n s) (t l : Int) (f : FrS) : St1 M q (n + 1) { s with b := (scanP M s.b t q.ends f).2.1, least := l } :=
  ⟨scanP_fit h.fit t _ _, h.next, by have := h.log; have := scanP_log M s.b t q.ends f; show (scanP M s.b t q.ends f).2.1.log.length ≤ _; omega, by have := h.ev; show s.ev.length ≤ _; omega, h.ends⟩
theorem St1.scan (h : St1 M q n s) (t : Int) (f : FrS) : St1 M q (n + 1) (scan1 M q t s f).2.1 := by
  unfold scan1
  dsimp only
  split
  · exact ⟨scanP_fit h.fit t _ _, h.next, by have := h.log; have := scanP_log M s.b t q.ends f; show (scanP M s.b t q.ends f).2.1.log.length ≤ _; omega, by have := h.ev; show s.ev.length ≤ _; omega, h.ends⟩
  · split
    · exact h.scanned t _ f
    · have h1 := h.scanned t (scanP M s.b t q.ends f).2.2.min f
      exact ⟨h1.fit, addM_in h.fit.M2 _ _, h1.log, by have := h.ev; simp [grant1]; omega, h.ends⟩
theorem St1.claim (h : St1 M q n s) (t : Int) (f : FrS) : St1 M q (n + 1) (claim1 M q t s f).2.1 := by
  unfold claim1
  split
  · exact h.mono (by omega)
  · split
    · exact h.scan t f
    · split
      · exact h.grant t _
      · exact h.scan t _
theorem claim1_from (h : St1 M q n s) (t : Int) (hf : InM M f.from_) : InM M (claim1 M q t s f).2.2.from_ := by
  have hs : ∀ f : FrS, InM M f.from_ → InM M (scan1 M q t s f).2.2.from_ := fun f hf => by
    unfold scan1
    dsimp only
    split
    · rw [scanP_from]; exact hf
    · split
      · rw [scanP_from]; exact hf
      · show InM M (scanP M s.b t q.ends f).2.2.from_; rw [scanP_from]; exact hf
  unfold claim1
  split
  · exact hf
  · split
    · exact hs f hf
    · split
      · exact h.next
      · exact hs _ h.next
theorem St1.publish (h : St1 M q n s) (t : Int) (f : FrS) : St1 M q (n + 1) (publish1 M q t s f).2.1 := by
  unfold publish1
  split
  · exact h.mono (by omega)
  · refine ⟨h.fit.store _ _ (addM_in h.fit.M2 _ _), h.next, ?_, ?_, h.ends⟩
    · have := h.log
      show (s.b.store t q.cell _).log.length ≤ _
      unfold BS.store; split
      · simp [BS.lay]; omega
      · omega
    · have := h.ev; simp; omega
theorem St1.tip (h : St1 M q n s) (t : Int) (f : FrS) : St1 M q (n + 1) (tip1 q t s f).2.1 :=
  ⟨h.fit.load _ _, h.next, by have := h.log; have := s.b.load_log t q.cell; show (s.b.load t q.cell).2.log.length ≤ _; omega, by have := h.ev; show s.ev.length ≤ _; omega, h.ends⟩
end

/-! Small helpers of the harnesses: blocks added, things let go. No program is walked. -/

theorem below_chain3 {a w w' : World} (h1 : Below a.heap.size a w) (h2 : Below w.heap.size w w') : Below a.heap.size a w' := h1.trans (h2.mono h1.size)
theorem nb_base2 {w W w4 : World} {γ0 γ4 : Nat → Nat} {S : Nat → Prop} {L : List It} {Bk : Nat → Prop} {A : Option Addr} {up : List (List Int)} {kb : Nat} {t : TypeId} {cs : Array Value} (h : Its W γ0 S L w4 γ4) (hw : Below w.heap.size w W) (hB : ∀ b, Bk b → b < W.heap.size) (hU : UpAt W Bk A up) (hk : Blk W kb t cs) :
    ∃ B0, Its B0 γ0 S L w4 γ4 ∧ Below w.heap.size w B0 ∧ (∀ b, Bk b → b < B0.heap.size) ∧ UpAt B0 Bk A up ∧ Blk B0 kb t cs := ⟨W, h, hw, hB, hU, hk⟩
theorem its_Kd {T : TypeId} {B0 w w' : World} {γ0 γ : Nat → Nat} {S : Nat → Prop} {a b c : It} (h : Its B0 γ0 S [a, b, c] w γ) (ha : a.id = 1) (hb : b.id = 2) (hc : c.id = 3) (hw : Below w.heap.size w w') (hz : w'.heap.size = w.heap.size) (cs : Array Value) : ∃ γ', Its B0 γ0 S [a, b, c, itK 4 w.heap.size T cs] (w'.alloc (.cells cs T)) γ' := by
  have h1 := its_K (T := T) (h.below hw) ha hb hc cs
  rw [hz] at h1
  exact h1
theorem drop3 {B0 w : World} {γ0 γ : Nat → Nat} {S : Nat → Prop} {a b c : It} {R : List It} (h : Its B0 γ0 S (a :: b :: c :: R) w γ) (ha : a.id = 1) (hb : b.id = 2) (hc : c.id = 3) : Its B0 γ0 S [a, b, c] w γ :=
  h.forget (fun x hx => by simp only [List.mem_cons, List.not_mem_nil, or_false] at hx ⊢; rcases hx with rfl | rfl | rfl <;> simp) (by simp only [List.map_cons, List.map_nil, ha, hb, hc]; decide)
end Go.Proofs.YtnkmlopjinihiaaDoor
