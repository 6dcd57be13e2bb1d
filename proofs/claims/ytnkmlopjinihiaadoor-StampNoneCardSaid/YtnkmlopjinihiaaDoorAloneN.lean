/- Plain: a thread that is alone, on a sequencer of several producers: how it begins; marks; the variants 2 and 3. No program, no memory. -/
import Derived.Test.YtnkmlopjinihiaaDoorSeqP
import Derived.Test.YtnkmlopjinihiaaDoorTurnP
import Derived.Test.YtnkmlopjinihiaaDoorGuard
import Derived.Test.YtnkmlopjinihiaaDoorGroupP
import Derived.Test.YtnkmlopjinihiaaDoorMarkP
import Derived.Test.YtnkmlopjinihiaaDoorRefNum
import Derived.Test.YtnkmlopjinihiaaDoorSeqNP
import Derived.Test.YtnkmlopjinihiaaDoorCaseP
namespace Go.Proofs.YtnkmlopjinihiaaDoor
open Go.RowKit
set_option linter.unusedVariables false
set_option linter.unusedSimpArgs false

/-! Things added one by one: events, a sequencer, registers; a run of a sequencer of one producer keeps its board in order. No program is walked. -/

theorem its_add {B0 w w' : World} {γ0 γ : Nat → Nat} {S : Nat → Prop} {L : List It} (h : Its B0 γ0 S L w γ) (hb : Below w.heap.size w w') (y : It) (hy : y.P w' (Lab w γ y.id)) (h0 : y.id ≠ 0) (hn : ∀ x ∈ L, x.id ≠ y.id) : Its B0 γ0 S (L ++ [y]) w' (Lab w γ y.id) :=
  h.add ((Fr.of_below hb NoId γ).relabel _) hy h0 hn
section
variable {tB tW tA tL tE T TS : TypeId} {kd : IntKind} {B0 w w' : World} {γ0 γ : Nat → Nat} {S : Nat → Prop} {p lg g : Nat} {b : BS} {ev : List Ev} {q : SqC} {next least : Int}
theorem its_B (h : Old B0 w γ) (hB : BoardAt tB tW tA kd w γ 1 p b) : Its B0 (fun _ => 0) NoId [itB tB tW tA kd 1 p b] w γ :=
  ⟨h.bel.os, h.bel.tape, h.bel.output, h.bel.size, fun b hb _ => ⟨h.bel.block b hb, h.lab b hb⟩, fun _ _ h => h.elim, fun y hy => by rw [List.mem_singleton.1 hy]; exact hB, fun y hy => by rw [List.mem_singleton.1 hy]; exact (by decide : (1 : Nat) ≠ 0), by simp⟩
theorem its_BL (h : Its B0 γ0 S [itB tB tW tA kd 1 p b] w γ) (hb : Below w.heap.size w w') (hl : ∀ γ id, LogAt tL tE w' (Lab w γ id) id lg []) : ∃ γ', Its B0 γ0 S [itB tB tW tA kd 1 p b, itL tL tE 2 lg []] w' γ' :=
  ⟨_, its_add h hb (itL tL tE 2 lg []) (hl γ 2) (by show (2 : Nat) ≠ 0; decide) (fun x hx => by rw [List.mem_singleton.1 hx]; show (1 : Nat) ≠ 2; decide)⟩
theorem its_BLS (h : Its B0 γ0 S [itB tB tW tA kd 1 p b, itL tL tE 2 lg ev] w γ) (hb : Below w.heap.size w w') (hs : ∀ γ id, Seq1At TS kd w' (Lab w γ id) id g p lg q next least) : ∃ γ', Its B0 γ0 S [itB tB tW tA kd 1 p b, itL tL tE 2 lg ev, itS1 TS kd 3 g p lg q next least] w' γ' :=
  ⟨_, its_add h hb (itS1 TS kd 3 g p lg q next least) (hs γ 3) (by show (3 : Nat) ≠ 0; decide) (fun x hx => by
    rcases List.mem_cons.1 hx with rfl | hx
    · show (1 : Nat) ≠ 3; decide
    · rw [List.mem_singleton.1 hx]; show (2 : Nat) ≠ 3; decide)⟩
/-- one more block, known whole -/
theorem its_K {a b c : It} (h : Its B0 γ0 S [a, b, c] w γ) (ha : a.id = 1) (hb : b.id = 2) (hc : c.id = 3) (cs : Array Value) : ∃ γ', Its B0 γ0 S [a, b, c, itK 4 w.heap.size T cs] (w.alloc (.cells cs T)) γ' :=
  ⟨_, h.box 4 T cs (by decide) (fun x hx => by
    rcases List.mem_cons.1 hx with rfl | hx
    · rw [ha]; decide
    · rcases List.mem_cons.1 hx with rfl | hx
      · rw [hb]; decide
      · rw [List.mem_singleton.1 hx, hc]; decide)⟩
end
theorem its_K5 {B0 w : World} {γ0 γ : Nat → Nat} {S : Nat → Prop} {T : TypeId} {a b c d : It} (h : Its B0 γ0 S [a, b, c, d] w γ) (ha : a.id = 1) (hb : b.id = 2) (hc : c.id = 3) (hd : d.id = 4) (cs : Array Value) : ∃ γ', Its B0 γ0 S [a, b, c, itK 5 w.heap.size T cs, d] (w.alloc (.cells cs T)) γ' := by
  have h1 := h.box 5 T cs (by decide) (fun x hx => by
    simp only [List.mem_cons, List.not_mem_nil, or_false] at hx
    rcases hx with rfl | rfl | rfl | rfl
    · rw [ha]; decide
    · rw [hb]; decide
    · rw [hc]; decide
    · rw [hd]; decide)
  exact ⟨_, h1.forget (fun x hx => by simp only [List.mem_cons, List.not_mem_nil, or_false, List.mem_append, List.cons_append, List.nil_append] at hx ⊢; rcases hx with rfl | rfl | rfl | rfl | rfl <;> simp) (by simp only [List.map_cons, List.map_nil, ha, hb, hc, hd]; show [1, 2, 3, 5, 4].Nodup; decide)⟩
theorem its_K6 {B0 w : World} {γ0 γ : Nat → Nat} {S : Nat → Prop} {T : TypeId} {a b c d e : It} (h : Its B0 γ0 S [a, b, c, d, e] w γ) (ha : a.id = 1) (hb : b.id = 2) (hc : c.id = 3) (hd : d.id = 5) (he : e.id = 4) (cs : Array Value) : ∃ γ', Its B0 γ0 S [a, b, c, itK 6 w.heap.size T cs, d, e] (w.alloc (.cells cs T)) γ' := by
  have h1 := h.box 6 T cs (by decide) (fun x hx => by
    simp only [List.mem_cons, List.not_mem_nil, or_false] at hx
    rcases hx with rfl | rfl | rfl | rfl | rfl
    · rw [ha]; decide
    · rw [hb]; decide
    · rw [hc]; decide
    · rw [hd]; decide
    · rw [he]; decide)
  exact ⟨_, h1.forget (fun x hx => by simp only [List.mem_cons, List.not_mem_nil, or_false, List.mem_append, List.cons_append, List.nil_append] at hx ⊢; rcases hx with rfl | rfl | rfl | rfl | rfl | rfl <;> simp) (by simp only [List.map_cons, List.map_nil, ha, hb, hc, hd, he]; show [1, 2, 3, 6, 5, 4].Nodup; decide)⟩
/-- where a law's things lie: one thread's registers, labelled i -/
def qp1 (i : Nat) (T : TypeId) (p lg g F : Nat) : QP := { T := T, p := p, lg := lg, g := g, fb := F, o := 0, t := 0, pre := [], post := [], fs := [{}], ib := 1, il := 2, is_ := 3, ifr := i, ho := rfl, ht := by decide }
theorem nb_base {w W w4 : World} {γ0 γ4 : Nat → Nat} {S : Nat → Prop} {L : List It} {Bk : Nat → Prop} {A : Option Addr} {up : List (List Int)} (h : Its W γ0 S L w4 γ4) (hw : Below w.heap.size w W) (hB : ∀ b, Bk b → b < W.heap.size) (hU : UpAt W Bk A up) :
    ∃ B0, Its B0 γ0 S L w4 γ4 ∧ Below w.heap.size w B0 ∧ (∀ b, Bk b → b < B0.heap.size) ∧ UpAt B0 Bk A up := ⟨W, h, hw, hB, hU⟩
def pick {α : Type} (k : Nat) (a b : α) : α := if k = 0 then a else b
/-- a run's state: in order, and not too long -/
structure St1 (M : Int) (q : SqC) (n : Nat) (s : Sq1) : Prop where
  fit : s.b.Fit M
  next : InM M s.next
  log : s.b.log.length ≤ n
  ev : s.ev.length ≤ 2 * n
  ends : q.ends.length ≤ 6
section
variable {M : Int} {q : SqC} {n : Nat} {s : Sq1} {f : FrS}
theorem St1.mono {m : Nat} (h : St1 M q n s) (hm : n ≤ m) : St1 M q m s := ⟨h.fit, h.next, by have := h.log; omega, by have := h.ev; omega, h.ends⟩
theorem St1.grant (h : St1 M q n s) (t : Int) (f : FrS) : St1 M q (n + 1) (grant1 M t s f).2.1 :=
  ⟨h.fit, addM_in h.fit.M2 _ _, by have := h.log; show s.b.log.length ≤ _; omega, by have := h.ev; simp [grant1]; omega, h.ends⟩
theorem St1.scanned (h : St1 M q n s) (t l : Int) (f : FrS) : St1 M q (n + 1) { s with b := (scanP M s.b t q.ends f).2.1, least := l } :=
  ⟨scanP_fit h.fit t _ _, h.next, by have := h.log; have := scanP_log M s.b t q.ends f; show (scanP M s.b t q.ends f).2.1.log.length ≤ _; omega, by have := h.ev; show s.ev.length ≤ _; omega, h.ends⟩
theorem St1.scan (h : St1 M q n s) (t : Int) (f : FrS) : St1 M q (n + 1) (scan1 M q t s f).2.1 := by
  unfold scan1
  dsimp only
  split
  · exact ⟨scanP_fit h.fit t _ _, h.next, by have := h.log; have := scanP_log M s.b t q.ends f; show (scanP M s.b t q.ends f).2.1.log.length ≤ _; omega, by have := h.ev; show s.ev.length ≤ _; omega, h.ends⟩
  · split
    · exact h.scanned t _ f
    · have h1 := h.scanned t (scanP M s.b t q.ends f).2.2.min f
      exact ⟨h1.fit, addM_in h.fit.M2 _ _, h1.log, by have := h.ev; simp [grant1]; omega, h.ends⟩
theorem St1.claim (h : St1 M q n s) (t : Int) (f : FrS) : St1 M q (n + 1) (claim1 M q t s f).2.1 := by
  unfold claim1
  split
  · exact h.mono (by omega)
  · split
    · exact h.scan t f
    · split
      · exact h.grant t _
      · exact h.scan t _
theorem claim1_from (h : St1 M q n s) (t : Int) (hf : InM M f.from_) : InM M (claim1 M q t s f).2.2.from_ := by
  have hs : ∀ f : FrS, InM M f.from_ → InM M (scan1 M q t s f).2.2.from_ := fun f hf => by
    unfold scan1
    dsimp only
    split
    · rw [scanP_from]; exact hf
    · split
      · rw [scanP_from]; exact hf
      · show InM M (scanP M s.b t q.ends f).2.2.from_; rw [scanP_from]; exact hf
  unfold claim1
  split
  · exact hf
  · split
    · exact hs f hf
    · split
      · exact h.next
      · exact hs _ h.next
theorem St1.publish (h : St1 M q n s) (t : Int) (f : FrS) : St1 M q (n + 1) (publish1 M q t s f).2.1 := by
  unfold publish1
  split
  · exact h.mono (by omega)
  · refine ⟨h.fit.store _ _ (addM_in h.fit.M2 _ _), h.next, ?_, ?_, h.ends⟩
    · have := h.log
      show (s.b.store t q.cell _).log.length ≤ _
      unfold BS.store; split
      · simp [BS.lay]; omega
      · omega
    · have := h.ev; simp; omega
theorem St1.tip (h : St1 M q n s) (t : Int) (f : FrS) : St1 M q (n + 1) (tip1 q t s f).2.1 :=
  ⟨h.fit.load _ _, h.next, by have := h.log; have := s.b.load_log t q.cell; show (s.b.load t q.cell).2.log.length ≤ _; omega, by have := h.ev; show s.ev.length ≤ _; omega, h.ends⟩
end

/-! Small helpers of the harnesses: blocks added, things let go. No program is walked. -/

theorem below_chain3 {a w w' : World} (h1 : Below a.heap.size a w) (h2 : Below w.heap.size w w') : Below a.heap.size a w' := h1.trans (h2.mono h1.size)
theorem nb_base2 {w W w4 : World} {γ0 γ4 : Nat → Nat} {S : Nat → Prop} {L : List It} {Bk : Nat → Prop} {A : Option Addr} {up : List (List Int)} {kb : Nat} {t : TypeId} {cs : Array Value} (h : Its W γ0 S L w4 γ4) (hw : Below w.heap.size w W) (hB : ∀ b, Bk b → b < W.heap.size) (hU : UpAt W Bk A up) (hk : Blk W kb t cs) :
    ∃ B0, Its B0 γ0 S L w4 γ4 ∧ Below w.heap.size w B0 ∧ (∀ b, Bk b → b < B0.heap.size) ∧ UpAt B0 Bk A up ∧ Blk B0 kb t cs := ⟨W, h, hw, hB, hU, hk⟩
theorem its_Kd {T : TypeId} {B0 w w' : World} {γ0 γ : Nat → Nat} {S : Nat → Prop} {a b c : It} (h : Its B0 γ0 S [a, b, c] w γ) (ha : a.id = 1) (hb : b.id = 2) (hc : c.id = 3) (hw : Below w.heap.size w w') (hz : w'.heap.size = w.heap.size) (cs : Array Value) : ∃ γ', Its B0 γ0 S [a, b, c, itK 4 w.heap.size T cs] (w'.alloc (.cells cs T)) γ' := by
  have h1 := its_K (T := T) (h.below hw) ha hb hc cs
  rw [hz] at h1
  exact h1
theorem drop3 {B0 w : World} {γ0 γ : Nat → Nat} {S : Nat → Prop} {a b c : It} {R : List It} (h : Its B0 γ0 S (a :: b :: c :: R) w γ) (ha : a.id = 1) (hb : b.id = 2) (hc : c.id = 3) : Its B0 γ0 S [a, b, c] w γ :=
  h.forget (fun x hx => by simp only [List.mem_cons, List.not_mem_nil, or_false] at hx ⊢; rcases hx with rfl | rfl | rfl <;> simp) (by simp only [List.map_cons, List.map_nil, ha, hb, hc]; decide)
end Go.Proofs.YtnkmlopjinihiaaDoor

namespace Go.Proofs.YtnkmlopjinihiaaDoor
open Go.RowKit
set_option linter.unusedVariables false
set_option linter.unusedSimpArgs false

/-! Plain: a thread that is alone, on a sequencer of one producer: its calls end, and leave the next position. No program, no memory. -/

/-- between calls: all gates and the next position are x -/
structure Rest1 (q : SqC) (x : Int) (s : Sq1) : Prop where
  kinds : ∀ e ∈ q.ends, s.b.l.kind e = 1
  gates : ∀ e ∈ q.ends, s.b.at_ e = x
  cur : s.b.l.kind q.cell = 1
  next : s.next = x
theorem dif_room {M x n cap : Int} (hM : M = M32 ∨ M = M64) (hx : InM M x) (hn : 1 ≤ n ∧ n ≤ cap) (hc : cap ≤ 64) : fitsP M cap x n x = true := by
  unfold fitsP
  apply decide_eq_true
  rcases hM with rfl | rfl
  · have e : (addM M32 x n - x) % M32 = n := by unfold InM M32 at hx; unfold addM M32; omega
    unfold difM
    rw [e]
    unfold sgM
    rw [if_pos (by unfold M32; omega)]
    exact hn.2
  · have e : (addM M64 x n - x) % M64 = n := by unfold InM M64 at hx; unfold addM M64; omega
    unfold difM
    rw [e]
    unfold sgM
    rw [if_pos (by unfold M64; omega)]
    exact hn.2
theorem dif_self {M x : Int} (hM : M = M32 ∨ M = M64) : ¬ difM M x x < 0 := by
  rcases hM with rfl | rfl <;> simp [difM, sgM, M32, M64]
theorem load_keep (b : BS) (t k : Int) (e : Int) : (b.load t k).2.at_ e = b.at_ e ∧ (b.load t k).2.l = b.l := by
  unfold BS.load; split <;> exact ⟨rfl, rfl⟩
theorem load_is {b : BS} {k : Int} (h : b.l.kind k = 1) (t : Int) : (b.load t k).1 = b.at_ k := by unfold BS.load; rw [if_pos h]
section
variable {M : Int} {q : SqC} {x n : Int} {s : Sq1} {f : FrS}
theorem Rest1.load (h : Rest1 q x s) (t k l : Int) : Rest1 q x { s with b := (s.b.load t k).2, least := l } :=
  ⟨fun e he => by show (s.b.load t k).2.l.kind e = 1; rw [(load_keep s.b t k e).2]; exact h.kinds e he, fun e he => by show (s.b.load t k).2.at_ e = x; rw [(load_keep s.b t k e).1]; exact h.gates e he, by show (s.b.load t k).2.l.kind _ = 1; rw [(load_keep s.b t k 0).2]; exact h.cur, h.next⟩
/-- a claim that goes on: j gates were looked at -/
structure Claims1 (q : SqC) (x n : Int) (j : Nat) (s : Sq1) (f : FrS) : Prop where
  rest : Rest1 q x s
  n_ : f.n = n
  at_ : (j = 0 ∧ f.pc = 0) ∨ (f.pc = 1 ∧ f.i = j ∧ 1 ≤ j ∧ (j : Int) < q.ends.length ∧ f.from_ = x ∧ f.min = x)
/-- what a claim is done with -/
structure Taken1 (q : SqC) (x y : Int) (s : Sq1) (f : FrS) : Prop where
  kinds : ∀ e ∈ q.ends, s.b.l.kind e = 1
  gates : ∀ e ∈ q.ends, s.b.at_ e = x
  cur : s.b.l.kind q.cell = 1
  next : s.next = y
  from_ : f.from_ = x
theorem grant1_taken (h : Rest1 q x s) (t : Int) (hf : f.from_ = x) (hn : f.n = n) : (grant1 M t s f).1 = true ∧ Taken1 q x (addM M x n) (grant1 M t s f).2.1 (grant1 M t s f).2.2 :=
  ⟨rfl, h.kinds, h.gates, h.cur, by show addM M s.next f.n = _; rw [h.next, hn], hf⟩
/-- a step of a scan of gates that are all x -/
theorem scan1_step (hM : M = M32 ∨ M = M64) (hx : InM M x) (hn : 1 ≤ n ∧ n ≤ q.c.cap) (hc : q.c.cap ≤ 64) (he : 1 ≤ q.ends.length) (h : Rest1 q x s) (t : Int) (j : Nat) (hi : f.i = j) (hj : (j : Int) < q.ends.length) (hf : f.from_ = x) (hfn : f.n = n) (hpc : f.pc = 1) (hm : 1 ≤ j → f.min = x) :
    ((scan1 M q t s f).1 = true ∧ Taken1 q x (addM M x n) (scan1 M q t s f).2.1 (scan1 M q t s f).2.2) ∨ ((scan1 M q t s f).1 = false ∧ Claims1 q x n (j + 1) (scan1 M q t s f).2.1 (scan1 M q t s f).2.2) := by
  have hjl : j < q.ends.length := by omega
  have hg := List.getElem?_eq_getElem hjl
  have hmem := List.getElem_mem hjl
  have hgd : q.ends.getD f.i.toNat 0 = q.ends[j] := by rw [hi]; simp [List.getD_eq_getElem?_getD, hg]
  generalize q.ends[j] = e at *
  have hv : (s.b.load t e).1 = x := by rw [load_is (h.kinds e hmem)]; exact h.gates e hmem
  have hmin : minP M f.i (s.b.load t e).1 f.min = x := by
    rw [hv]
    unfold minP
    by_cases h0 : j = 0
    · rw [if_pos (.inl (by omega))]
    · rw [if_neg (by rw [hm (by omega)]; exact fun hh => hh.elim (by omega) (dif_self hM))]; exact hm (by omega)
  have hsc : scanP M s.b t q.ends f = if f.i + 1 < q.ends.length then (false, (s.b.load t e).2, { f with min := x, i := f.i + 1 }) else (true, (s.b.load t e).2, { f with min := x, i := 0 }) := by
    unfold scanP
    rw [if_neg (by omega), hgd, hmin]
  by_cases hl : f.i + 1 < q.ends.length
  · rw [if_pos hl] at hsc
    refine .inr ?_
    unfold scan1
    rw [hsc]
    exact ⟨rfl, h.load t e s.least, hfn, .inr ⟨hpc, by show f.i + 1 = ((j + 1 : Nat) : Int); omega, by omega, by omega, hf, rfl⟩⟩
  · rw [if_neg hl] at hsc
    refine .inl ?_
    have hfit : fitsP M q.c.cap f.from_ f.n x = true := by rw [hf, hfn]; exact dif_room hM hx hn hc
    unfold scan1
    rw [hsc]
    dsimp only
    rw [if_neg (by decide), hfit, if_neg (by decide)]
    exact grant1_taken (h.load t e x) t hf hfn
theorem claim1_step (hM : M = M32 ∨ M = M64) (hx : InM M x) (hn : 1 ≤ n ∧ n ≤ q.c.cap) (hc : q.c.cap ≤ 64) (he : 1 ≤ q.ends.length) (t : Int) (ht : 0 ≤ t ∧ t < q.c.producers) (j : Nat) (h : Claims1 q x n j s f) :
    ((claim1 M q t s f).1 = true ∧ Taken1 q x (addM M x n) (claim1 M q t s f).2.1 (claim1 M q t s f).2.2) ∨ ((claim1 M q t s f).1 = false ∧ Claims1 q x n (j + 1) (claim1 M q t s f).2.1 (claim1 M q t s f).2.2) := by
  have hmay : mayP q t f = true := decide_eq_true ⟨ht.1, ht.2, by rw [h.n_]; exact hn.1, by rw [h.n_]; exact hn.2⟩
  unfold claim1
  rw [hmay, if_neg (by decide)]
  rcases h.at_ with ⟨rfl, hpc⟩ | ⟨hpc, hi, h1, hj, hf, hm⟩
  · rw [if_neg (by omega)]
    split
    · exact .inl (grant1_taken h.rest t (by show s.next = x; exact h.rest.next) h.n_)
    · exact scan1_step hM hx hn hc he h.rest t 0 rfl (by omega) (by show s.next = x; exact h.rest.next) h.n_ rfl (fun h => by omega)
  · rw [if_pos hpc]
    exact scan1_step hM hx hn hc he h.rest t j hi hj hf h.n_ hpc (fun _ => hm)
theorem Claims1.bound {j : Nat} (h : Claims1 q x n j s f) (he : 1 ≤ q.ends.length) : (j : Int) < q.ends.length := by
  rcases h.at_ with ⟨rfl, _⟩ | ⟨_, _, _, hj, _⟩
  · omega
  · exact hj
/-- what is published, and then found -/
theorem Taken1.publish {y : Int} (h : Taken1 q x y s f) (hfit : s.b.Fit M) (hnc : ∀ e ∈ q.ends, e ≠ q.cell) (hn : 1 ≤ n ∧ n ≤ q.c.cap) (t : Int) (ht : 0 ≤ t ∧ t < q.c.producers) (g : FrS) (hg : g.from_ = x) (hgn : g.n = n) :
    (publish1 M q t s g).1 = true ∧ (publish1 M q t s g).2.1.b.at_ q.cell = addM M x n ∧ (∀ e ∈ q.ends, (publish1 M q t s g).2.1.b.l.kind e = 1) ∧ (publish1 M q t s g).2.1.b.l.kind q.cell = 1 ∧ (publish1 M q t s g).2.1.next = y := by
  have hmay : mayP q t g = true := decide_eq_true ⟨ht.1, ht.2, by rw [hgn]; exact hn.1, by rw [hgn]; exact hn.2⟩
  unfold publish1
  rw [hmay, if_neg (by decide)]
  obtain ⟨k, hk, hkl, _⟩ := hfit.ok.cell (.inl h.cur)
  have hl : (s.b.store t q.cell (addM M g.from_ g.n)).l = s.b.l := by unfold BS.store; split <;> rfl
  refine ⟨rfl, ?_, fun e he => by show (s.b.store t q.cell _).l.kind e = 1; rw [hl]; exact h.kinds e he, by show (s.b.store t q.cell _).l.kind _ = 1; rw [hl]; exact h.cur, h.next⟩
  show (s.b.store t q.cell (addM M g.from_ g.n)).at_ q.cell = _
  unfold BS.store
  rw [if_pos h.cur, hg, hgn]
  unfold BS.lay BS.at_
  show (s.b.cells.set q.cell.toNat (addM M x n)).getD q.cell.toNat 0 = _
  rw [hk]
  simp [List.getD_eq_getElem?_getD, hkl]
theorem tip1_val {y : Int} (h : s.b.at_ q.cell = y) (hk : s.b.l.kind q.cell = 1) (t : Int) (g : FrS) : (tip1 q t s g).1 = true ∧ (tip1 q t s g).2.2.val = y := by
  refine ⟨rfl, ?_⟩
  show (s.b.load t q.cell).1 = y
  rw [load_is hk]; exact h
end

/-! Plain: how a thread that is alone begins, and how the gates follow it. No program, no memory. -/

theorem nils_ends {N : Nat} (hN : 1 ≤ N ∧ N ≤ 6) (e : Int) : e ∈ endsP (List.replicate N []) ↔ 0 ≤ e ∧ e < N := by
  have h := endsP_mem (up := List.replicate N []) (by simp; omega) (by intro l hl; rw [(List.mem_replicate.1 hl).2]; simp) e
  rw [h]
  simp only [List.length_replicate]
  constructor
  · intro ⟨h0, h1, _⟩; exact ⟨h0, h1⟩
  · intro ⟨h0, h1⟩; exact ⟨h0, h1, fun l hl => by rw [(List.mem_replicate.1 hl).2]; simp⟩
theorem nils_one {N : Nat} (hN : 1 ≤ N ∧ N ≤ 6) : 1 ≤ (endsP (List.replicate N [])).length := by
  have h := (nils_ends hN 0).2 ⟨by omega, by omega⟩
  exact List.length_pos_of_mem h
section
variable {cp st : Int} {N c : Nat} {A EA : Option Addr} {EC : Nat}
def cfA (cp st : Int) (A : Option Addr) (N c : Nat) : Cf := ⟨1, 64, cp, 1, st, A, N, c⟩
def qA (cp st : Int) (A : Option Addr) (N c : Nat) (EA : Option Addr) (EC : Nat) : SqC := ⟨cfA cp st A N c, endsP (List.replicate N []), N, EA, EC⟩
def sA (cp st : Int) (A : Option Addr) (N c : Nat) : Sq1 := ⟨newBS (mkLay (cfA cp st A N c)), [], cutM M64 st, cutM M64 st⟩
theorem cfA_kind (hc : Cap2 cp) {k : Int} (hk : 0 ≤ k ∧ k ≤ N) : (mkLay (cfA cp st A N c)).kind k = 1 := by
  have hb := hc.bd
  unfold mkLay cfA
  rw [if_pos rfl]
  unfold Lay.kind
  dsimp only
  rw [if_neg (by omega), if_neg (by omega), if_neg (by omega)]
theorem cfA_first (hc : Cap2 cp) {k : Int} (hk : 0 ≤ k ∧ k ≤ N) : (mkLay (cfA cp st A N c)).first k = cutM M64 st := by
  have hb := hc.bd
  unfold mkLay cfA
  rw [if_pos rfl]
  unfold Lay.first
  dsimp only
  rw [if_neg (by omega), if_pos (by omega)]
  unfold startI MW
  rfl
theorem cfA_at (hc : Cap2 cp) (k : Nat) (hk : k ≤ N) : (newBS (mkLay (cfA cp st A N c))).at_ k = cutM M64 st := by
  have hb := hc.bd
  unfold BS.at_
  have h := newBS_at (mkLay (cfA cp st A N c)) k (by unfold mkLay cfA; rw [if_pos rfl]; dsimp only; omega)
  rw [List.getD_eq_getElem?_getD, Int.toNat_natCast, h, cfA_first hc (by omega)]
  rfl
theorem rest_start (hc : Cap2 cp) (hN : 1 ≤ N ∧ N ≤ 6) : Rest1 (qA cp st A N c EA EC) (cutM M64 st) (sA cp st A N c) := by
  refine ⟨fun e he => ?_, fun e he => ?_, ?_, rfl⟩
  · have h := (nils_ends hN e).1 he
    exact cfA_kind hc ⟨h.1, by omega⟩
  · have h := (nils_ends hN e).1 he
    obtain ⟨k, rfl⟩ := Int.eq_ofNat_of_zero_le h.1
    exact cfA_at hc k (by omega)
  · exact cfA_kind hc ⟨by show (0 : Int) ≤ (N : Int); omega, Int.le_refl _⟩
end
/-- the gates follow, one by one: those below j have come -/
structure Part1 (q : SqC) (y : Int) (j : Nat) (s : Sq1) : Prop where
  kinds : ∀ e ∈ q.ends, s.b.l.kind e = 1
  gates : ∀ e ∈ q.ends, e < j → s.b.at_ e = y
  cur : s.b.l.kind q.cell = 1
  next : s.next = y
section
variable {M : Int} {q : SqC} {x y n : Int} {s : Sq1} {f : FrS} {N : Nat}
theorem store_l (b : BS) (t k v : Int) : (b.store t k v).l = b.l := by unfold BS.store; split <;> rfl
theorem store_at {b : BS} {k : Int} (hk : b.l.kind k = 1) (hok : b.Ok M) (t v e : Int) (he : 0 ≤ e) : (b.store t k v).at_ e = if e = k then v else b.at_ e := by
  obtain ⟨m, rfl, hml, _⟩ := hok.cell (.inl hk)
  obtain ⟨i, rfl⟩ := Int.eq_ofNat_of_zero_le he
  unfold BS.store
  rw [if_pos hk]
  show (b.cells.set _ v).getD _ 0 = if _ then v else b.cells.getD _ 0
  simp only [Int.toNat_natCast, List.getD_eq_getElem?_getD]
  by_cases h : i = m
  · subst h; rw [if_pos rfl]; simp [hml]
  · rw [if_neg (by omega), List.getElem?_set_ne (fun h' => h h'.symm)]
theorem Part1.start (hN : 1 ≤ N ∧ N ≤ 6) (hq : q.ends = endsP (List.replicate N [])) (hk : ∀ e ∈ q.ends, s.b.l.kind e = 1) (hc : s.b.l.kind q.cell = 1) (hn : s.next = y) : Part1 q y 0 s :=
  ⟨hk, fun e he hlt => by rw [hq] at he; have := (nils_ends hN e).1 he; omega, hc, hn⟩
theorem Part1.step {j : Nat} (hN : 1 ≤ N ∧ N ≤ 6) (hq : q.ends = endsP (List.replicate N [])) (h : Part1 q y j s) (hok : s.b.Ok M) (hj : j < N) (t : Int) : Part1 q y (j + 1) { s with b := s.b.store t j y } := by
  have hkj : s.b.l.kind j = 1 := h.kinds j (by rw [hq]; exact (nils_ends hN j).2 ⟨by omega, by omega⟩)
  refine ⟨fun e he => by show (s.b.store t j y).l.kind e = 1; rw [store_l]; exact h.kinds e he, fun e he hlt => ?_, by show (s.b.store t j y).l.kind _ = 1; rw [store_l]; exact h.cur, h.next⟩
  have he0 : 0 ≤ e := by have he' := he; rw [hq] at he'; exact ((nils_ends hN e).1 he').1
  show (s.b.store t j y).at_ e = y
  rw [store_at hkj hok t y e he0]
  split
  · rfl
  · exact h.gates e he (by omega)
theorem Part1.done {j : Nat} (hN : 1 ≤ N ∧ N ≤ 6) (hq : q.ends = endsP (List.replicate N [])) (h : Part1 q y j s) (hj : N ≤ j) : Rest1 q y s :=
  ⟨h.kinds, fun e he => h.gates e he (by have he' := he; rw [hq] at he'; have := (nils_ends hN e).1 he'; omega), h.cur, h.next⟩
theorem St1.store {m : Nat} (h : St1 M q m s) (t k : Int) {v : Int} (hv : InM M v) : St1 M q (m + 1) { s with b := s.b.store t k v } := by
  refine ⟨h.fit.store t k hv, h.next, ?_, by have := h.ev; show s.ev.length ≤ _; omega, h.ends⟩
  have := h.log
  show (s.b.store t k v).log.length ≤ _
  unfold BS.store; split
  · simp [BS.lay]; omega
  · omega
/-- the whole of a publish and a tip by one that is alone -/
theorem alone_tip (h : Taken1 q x y s f) (hfit : s.b.Fit M) (hnc : ∀ e ∈ q.ends, e ≠ q.cell) (hy : y = addM M x n) (hn : 1 ≤ n ∧ n ≤ q.c.cap) (t : Int) (ht : 0 ≤ t ∧ t < q.c.producers) (t2 : Int) (g k : FrS) (hg : g.from_ = x) (hgn : g.n = n) :
    (publish1 M q t s g).1 = true ∧ (tip1 q t2 (publish1 M q t s g).2.1 k).1 = true ∧ (tip1 q t2 (publish1 M q t s g).2.1 k).2.2.val = y ∧
    (∀ e ∈ q.ends, (tip1 q t2 (publish1 M q t s g).2.1 k).2.1.b.l.kind e = 1) ∧ (tip1 q t2 (publish1 M q t s g).2.1 k).2.1.b.l.kind q.cell = 1 ∧ (tip1 q t2 (publish1 M q t s g).2.1 k).2.1.next = y := by
  obtain ⟨h1, h2, h3, h4, h5⟩ := h.publish hfit hnc hn t ht g hg hgn
  generalize publish1 M q t s g = r at *
  have hl : (tip1 q t2 r.2.1 k).2.1.b.l = r.2.1.b.l := (load_keep _ _ _ 0).2
  refine ⟨h1, rfl, (tip1_val (h2.trans hy.symm) h4 t2 k).2, fun e he => by rw [hl]; exact h3 e he, by rw [hl]; exact h4, h5⟩
end

/-! Plain: what it is that a thread that is alone is done with each call, over any sequencer's state; a sequencer of one producer is such. No program, no memory. -/

/-- registers in order -/
structure FOk (M : Int) (f : FrS) : Prop where
  from_ : InM M f.from_
  val : InM M f.val
  i : 0 ≤ f.i ∧ f.i ≤ 1000000
  j : 0 ≤ f.j ∧ f.j ≤ 1000000
/-- each call is done within bd steps, and leaves the next position -/
structure Alone (σ : Type) (M cap : Int) (N bd : Nat) (bs : σ → BS) (put : σ → BS → σ) (claim publish tip : σ → FrS → Bool × σ × FrS) (St : Nat → σ → Prop) (Rest : Int → σ → Prop) (CP PP TP : Int → Int → Nat → σ → FrS → Prop) (Tk Pd : Int → Int → σ → Prop) (GP : Int → Nat → σ → Prop) : Prop where
  claim0 : ∀ {x n : Int} {s : σ}, InM M x → 1 ≤ n → n ≤ cap → Rest x s → CP x n 0 s { n := n }
  claim1 : ∀ {x n : Int} {j m : Nat} {s : σ} {f : FrS}, St m s → CP x n j s f → j < bd ∧ FOk M f ∧
    (((claim s f).1 = true ∧ Tk x n (claim s f).2.1 ∧ (claim s f).2.2.from_ = x) ∨ ((claim s f).1 = false ∧ CP x n (j + 1) (claim s f).2.1 (claim s f).2.2))
  publish0 : ∀ {x n : Int} {s : σ}, Tk x n s → PP x n 0 s { n := n, from_ := x }
  publish1 : ∀ {x n : Int} {j m : Nat} {s : σ} {f : FrS}, St m s → PP x n j s f → j < bd ∧ FOk M f ∧
    (((publish s f).1 = true ∧ Pd x n (publish s f).2.1) ∨ ((publish s f).1 = false ∧ PP x n (j + 1) (publish s f).2.1 (publish s f).2.2))
  tip0 : ∀ {x n : Int} {s : σ}, Pd x n s → TP x n 0 s { val := x }
  tip1 : ∀ {x n : Int} {j m : Nat} {s : σ} {f : FrS}, St m s → TP x n j s f → j < bd ∧ FOk M f ∧
    (((tip s f).1 = true ∧ GP (addM M x n) 0 (tip s f).2.1 ∧ (tip s f).2.2.val = addM M x n) ∨ ((tip s f).1 = false ∧ TP x n (j + 1) (tip s f).2.1 (tip s f).2.2))
  gate1 : ∀ {y : Int} {j m : Nat} {s : σ}, St m s → GP y j s → j < N → ∀ t : Int, GP y (j + 1) (put s ((bs s).store t j y))
  gate2 : ∀ {y : Int} {j : Nat} {s : σ}, GP y j s → N ≤ j → Rest y s
  stClaim : ∀ {m : Nat} {s : σ} {f : FrS}, St m s → St (m + 1) (claim s f).2.1
  stPublish : ∀ {m : Nat} {s : σ} {f : FrS}, St m s → FOk M f → St (m + 1) (publish s f).2.1
  stTip : ∀ {m : Nat} {s : σ} {f : FrS}, St m s → FOk M f → St (m + 1) (tip s f).2.1
  stGate : ∀ {m : Nat} {s : σ} {t k v : Int}, St m s → InM M v → St (m + 1) (put s ((bs s).store t k v))
theorem in64_0 : InM M64 0 := by unfold InM M64; decide
theorem FOk.new {n x : Int} (hx : InM M64 x) : FOk M64 { n := n, from_ := x } := ⟨hx, in64_0, ⟨Int.le_refl 0, by show (0 : Int) ≤ 1000000; decide⟩, ⟨Int.le_refl 0, by show (0 : Int) ≤ 1000000; decide⟩⟩
theorem FOk.look {x : Int} (hx : InM M64 x) : FOk M64 { val := x } := ⟨in64_0, hx, ⟨Int.le_refl 0, by show (0 : Int) ≤ 1000000; decide⟩, ⟨Int.le_refl 0, by show (0 : Int) ≤ 1000000; decide⟩⟩
/-- registers of a claim of one producer -/
structure CP1 (M : Int) (q : SqC) (x n : Int) (j : Nat) (s : Sq1) (f : FrS) : Prop where
  xm : InM M x
  n1 : 1 ≤ n
  n2 : n ≤ q.c.cap
  val : f.val = 0
  jj : f.j = 0
  fm : InM M f.from_
  ii : 0 ≤ f.i ∧ f.i ≤ 1000000
  cl : Claims1 q x n j s f
theorem claim1_keep {M : Int} {q : SqC} {t : Int} {s : Sq1} {f : FrS} (he : q.ends.length ≤ 6) (h : f.val = 0 ∧ f.j = 0 ∧ 0 ≤ f.i ∧ f.i ≤ 1000000) : (claim1 M q t s f).2.2.val = 0 ∧ (claim1 M q t s f).2.2.j = 0 ∧ 0 ≤ (claim1 M q t s f).2.2.i ∧ (claim1 M q t s f).2.2.i ≤ 1000000 := by
  have hs : ∀ (s : Sq1) (f : FrS), (f.val = 0 ∧ f.j = 0 ∧ 0 ≤ f.i ∧ f.i ≤ 1000000) → (scan1 M q t s f).2.2.val = 0 ∧ (scan1 M q t s f).2.2.j = 0 ∧ 0 ≤ (scan1 M q t s f).2.2.i ∧ (scan1 M q t s f).2.2.i ≤ 1000000 := fun s f h => by
    have hc : (scanP M s.b t q.ends f).2.2.val = 0 ∧ (scanP M s.b t q.ends f).2.2.j = 0 ∧ 0 ≤ (scanP M s.b t q.ends f).2.2.i ∧ (scanP M s.b t q.ends f).2.2.i ≤ 1000000 := by
      unfold scanP
      split
      · exact ⟨h.1, h.2.1, Int.le_refl 0, by show (0 : Int) ≤ 1000000; decide⟩
      · split
        · exact ⟨h.1, h.2.1, by show 0 ≤ f.i + 1; omega, by show f.i + 1 ≤ 1000000; omega⟩
        · exact ⟨h.1, h.2.1, Int.le_refl 0, by show (0 : Int) ≤ 1000000; decide⟩
    unfold scan1
    dsimp only
    split
    · exact hc
    · split
      · exact hc
      · exact hc
  unfold claim1
  split
  · exact h
  · split
    · exact hs s f h
    · split
      · exact h
      · exact hs s _ ⟨h.1, h.2.1, Int.le_refl 0, by show (0 : Int) ≤ 1000000; decide⟩
section
variable {cp st : Int} {N c : Nat} {A EA : Option Addr} {EC : Nat}
/-- what is kept between a claim and its publishing, and between that and the look -/
def Tk1 (q : SqC) (x n : Int) (s : Sq1) : Prop := InM M64 x ∧ 1 ≤ n ∧ n ≤ q.c.cap ∧ ∃ f0, Taken1 q x (addM M64 x n) s f0
def Pd1 (q : SqC) (x n : Int) (s : Sq1) : Prop := InM M64 x ∧ s.b.at_ q.cell = addM M64 x n ∧ (∀ e ∈ q.ends, s.b.l.kind e = 1) ∧ s.b.l.kind q.cell = 1 ∧ s.next = addM M64 x n
def PP1 (q : SqC) (x n : Int) (j : Nat) (s : Sq1) (f : FrS) : Prop := j = 0 ∧ f = { n := n, from_ := x } ∧ Tk1 q x n s
def TP1 (q : SqC) (x n : Int) (j : Nat) (s : Sq1) (f : FrS) : Prop := j = 0 ∧ f = { val := x } ∧ Pd1 q x n s
/-- a sequencer of one producer -/
theorem alone1 (hc : Cap2 cp) (hN : 1 ≤ N ∧ N ≤ 6) :
    Alone Sq1 M64 cp N (4 * cp.toNat + N + 8) (fun s => s.b) (fun s b => { s with b := b }) (fun s f => claim1 M64 (qA cp st A N c EA EC) 0 s f) (fun s f => publish1 M64 (qA cp st A N c EA EC) 0 s f) (fun s f => tip1 (qA cp st A N c EA EC) 1 s f) (fun m s => St1 M64 (qA cp st A N c EA EC) m s)
      (Rest1 (qA cp st A N c EA EC)) (CP1 M64 (qA cp st A N c EA EC)) (PP1 (qA cp st A N c EA EC)) (TP1 (qA cp st A N c EA EC)) (Tk1 (qA cp st A N c EA EC)) (Pd1 (qA cp st A N c EA EC)) (Part1 (qA cp st A N c EA EC)) where
  claim0 := fun hx h1 h2 hR => ⟨hx, h1, h2, rfl, rfl, in64_0, ⟨Int.le_refl 0, by show (0 : Int) ≤ 1000000; decide⟩, ⟨hR, rfl, .inl ⟨rfl, rfl⟩⟩⟩
  claim1 := fun {x n j m s f} hS h => by
    have hb := hc.bd
    have he : 1 ≤ (qA cp st A N c EA EC).ends.length := nils_one hN
    have hj := h.cl.bound he
    have hl6 : (qA cp st A N c EA EC).ends.length ≤ 6 := endsP_len _
    refine ⟨by omega, ⟨h.fm, by rw [h.val]; exact in64_0, h.ii, by rw [h.jj]; exact ⟨Int.le_refl 0, by decide⟩⟩, ?_⟩
    have hk := claim1_keep (M := M64) (t := 0) (s := s) hl6 ⟨h.val, h.jj, h.ii⟩
    rcases claim1_step (M := M64) (t := 0) (.inr rfl) h.xm ⟨h.n1, h.n2⟩ (show cp ≤ 64 by omega) he ⟨Int.le_refl 0, show (0 : Int) < 1 by decide⟩ j h.cl with ⟨hd, hT⟩ | ⟨hd, hC⟩
    · exact .inl ⟨hd, ⟨h.xm, h.n1, h.n2, _, hT⟩, hT.from_⟩
    · exact .inr ⟨hd, h.xm, h.n1, h.n2, hk.1, hk.2.1, claim1_from hS 0 h.fm, hk.2.2, hC⟩
  publish0 := fun h => ⟨rfl, rfl, h⟩
  publish1 := fun {x n j m s f} hS h => by
    obtain ⟨rfl, rfl, hx, h1, h2, f0, hT⟩ := h
    have hb := hc.bd
    refine ⟨by omega, FOk.new hx, .inl ?_⟩
    have hP := hT.publish (n := n) hS.fit (fun e he => by have h := (nils_ends hN e).1 he; show e ≠ (N : Int); omega) ⟨h1, h2⟩ 0 ⟨Int.le_refl 0, show (0 : Int) < 1 by decide⟩ ({ n := n, from_ := x } : FrS) rfl rfl
    exact ⟨hP.1, hx, hP.2.1, hP.2.2.1, hP.2.2.2.1, hP.2.2.2.2⟩
  tip0 := fun h => ⟨rfl, rfl, h⟩
  tip1 := fun {x n j m s f} hS h => by
    obtain ⟨rfl, rfl, hx, h1, h2, h3, h4⟩ := h
    have hb := hc.bd
    have ht := tip1_val h1 h3 1 ({ val := x } : FrS)
    refine ⟨by omega, FOk.look hx, .inl ⟨rfl, ?_, ht.2⟩⟩
    have hl : (tip1 (qA cp st A N c EA EC) 1 s ({ val := x } : FrS)).2.1.b.l = s.b.l := (load_keep _ _ _ 0).2
    exact Part1.start hN rfl (fun e he => by rw [hl]; exact h2 e he) (by rw [hl]; exact h3) h4
  gate1 := fun hS h hj t => h.step hN rfl hS.fit.ok hj t
  gate2 := fun h hj => h.done hN rfl hj
  stClaim := fun hS => hS.claim 0 _
  stPublish := fun hS _ => hS.publish 0 _
  stTip := fun hS _ => hS.tip 1 _
  stGate := fun hS hv => hS.store _ _ hv
end
end Go.Proofs.YtnkmlopjinihiaaDoor

namespace Go.Proofs.YtnkmlopjinihiaaDoor
open Go.RowKit
set_option linter.unusedVariables false
set_option linter.unusedSimpArgs false
set_option maxHeartbeats 2000000

section
variable {M : Int} {b : BS}
theorem BS.Fit.mlay_eq (h : b.Fit M) (hm : b.hasM = true) (t pos : Int) : ∃ kind, b.mlay t pos = b.lay t kind (b.mcell pos) (b.mround pos) := by
  have hk := (h.marks hm pos).2.2.2
  unfold BS.mlay
  split
  · rename_i h2
    rw [if_pos h2] at hk
    exact ⟨7, by unfold BS.write; rw [if_pos hk]⟩
  · rename_i h2
    rw [if_neg h2] at hk
    exact ⟨2, by unfold BS.store; rw [if_pos hk]⟩
theorem BS.Fit.mlay_l (h : b.Fit M) (hm : b.hasM = true) (t pos : Int) : (b.mlay t pos).l = b.l := by obtain ⟨k, hk⟩ := h.mlay_eq hm t pos; rw [hk]; rfl
theorem BS.Fit.mlay_log (h : b.Fit M) (hm : b.hasM = true) (t pos : Int) : (b.mlay t pos).log.length = b.log.length + 1 := by obtain ⟨k, hk⟩ := h.mlay_eq hm t pos; rw [hk]; simp [BS.lay]
theorem BS.Fit.mlay_hasM (h : b.Fit M) (hm : b.hasM = true) (t pos : Int) : (b.mlay t pos).hasM = true := by unfold BS.hasM; rw [h.mlay_l hm]; exact hm
theorem BS.Fit.marked_mlay (h : b.Fit M) (hm : b.hasM = true) (t pos q : Int) :
    (b.mlay t pos).marked q = if slotI b.l.c.cap q = slotI b.l.c.cap pos then decide (b.mround pos = b.mround q) else b.marked q := by
  obtain ⟨kind, hk⟩ := h.mlay_eq hm t pos
  obtain ⟨e1, h1, _, k1⟩ := h.marks hm pos
  obtain ⟨e2, _, _, _⟩ := h.marks hm q
  have s1 := slotI_bd (x := pos) h.cap
  have s2 := slotI_bd (x := q) h.cap
  obtain ⟨n, hn, hl, _⟩ := h.ok.cell (k := b.mcell pos) (by rw [k1]; split <;> simp)
  have hmm := h.mlay_hasM hm t pos
  unfold BS.marked
  rw [hmm, hm]
  have hc : (b.mlay t pos).mcell q = b.mcell q := by unfold BS.mcell; rw [h.mlay_l hm]
  have hr : (b.mlay t pos).mround q = b.mround q := by unfold BS.mround; rw [h.mlay_l hm]
  rw [hc, hr, hk, at_set (by omega)]
  simp only [Bool.true_and]
  by_cases hs : slotI b.l.c.cap q = slotI b.l.c.cap pos
  · rw [if_pos hs, if_pos (by rw [e1, e2, hs])]
  · rw [if_neg hs, if_neg (by rw [e1, e2]; omega)]
theorem BS.Fit.publish1 (h : b.Fit M) (hm : b.hasM = true) (t : Int) {pos : Int} (hp : InM M pos) : publishP M b t { n := 1, from_ := pos } = (true, b.mlay t pos, { n := 1, from_ := pos }) := by
  have ha : addM M pos 0 = pos := by unfold InM at hp; unfold addM; rw [Int.add_zero]; exact Int.emod_eq_of_lt hp.1 hp.2
  unfold publishP
  rw [if_neg (by simp [hm]), if_pos (show FrS.inside { n := 1, from_ := pos } from ⟨Int.le_refl 0, (show (0 : Int) < 1 by decide)⟩), if_neg (show ¬ (0 : Int) + 1 < 1 by decide)]
  show (true, b.mlay t (addM M pos 0), _) = _
  rw [ha]
end
theorem made_marks (c : Cf) : (newBS (mkLay c)).hasM = decide (mkKind c.variant ≠ 0) := by
  show decide (mkKind (mkLay c).c.variant ≠ 0) = _
  rw [mkLay_c]
theorem slot_far {c p far : Int} (hc : Cap2 c) (hp : InM M64 p) (hf : 1 ≤ far ∧ far < c) : slotI c (addM M64 p far) ≠ slotI c p := by
  unfold InM M64 at hp
  rcases hc with rfl | rfl | rfl | rfl | rfl | rfl <;> simp only [slotI, addM, M64] <;> omega
theorem slot_cap {c p : Int} (hc : Cap2 c) (hp : InM M64 p) : slotI c (addM M64 p c) = slotI c p := by
  unfold InM M64 at hp
  rcases hc with rfl | rfl | rfl | rfl | rfl | rfl <;> simp only [slotI, addM, M64] <;> omega
theorem round_cap {c p : Int} (hc : Cap2 c) (hp : InM M64 p) : roundI c (addM M64 p c) ≠ roundI c p := by
  unfold InM M64 at hp
  rcases hc with rfl | rfl | rfl | rfl | rfl | rfl <;> simp only [roundI, addM, M64] <;> omega
end Go.Proofs.YtnkmlopjinihiaaDoor

namespace Go.Proofs.YtnkmlopjinihiaaDoor
open Go.RowKit
set_option linter.unusedVariables false
set_option linter.unusedSimpArgs false

theorem slot_add {M c p : Int} {i j : Int} (hM : M = M32 ∨ M = M64) (hc : Cap2 c) (hi : 0 ≤ i ∧ i < c) (hj : 0 ≤ j ∧ j < c) (hne : i ≠ j) : slotI c (addM M p i) ≠ slotI c (addM M p j) := by
  rcases hM with rfl | rfl <;> rcases hc with rfl | rfl | rfl | rfl | rfl | rfl <;> simp only [slotI, addM, M32, M64] <;> omega
theorem slot_wrap {M c p : Int} (hM : M = M32 ∨ M = M64) (hc : Cap2 c) : slotI c (addM M p c) = slotI c (addM M p 0) := by
  rcases hM with rfl | rfl <;> rcases hc with rfl | rfl | rfl | rfl | rfl | rfl <;> simp only [slotI, addM, M32, M64] <;> omega
theorem round_wrap {M c p : Int} (hM : M = M32 ∨ M = M64) (hc : Cap2 c) : roundI c (addM M p c) ≠ roundI c (addM M p 0) := by
  rcases hM with rfl | rfl <;> rcases hc with rfl | rfl | rfl | rfl | rfl | rfl <;> simp only [roundI, addM, M32, M64] <;> omega
theorem ahead_not {M c x k : Int} (hM : M = M32 ∨ M = M64) (hc : Cap2 c) (hk : 0 ≤ k ∧ k < c) : aheadI M c (slotI c (addM M x k)) x ≠ roundI c (addM M x k) := by
  have hs := slotI_bd (x := addM M x k) hc
  have hk2 := (first_hit hM hc (s := slotI c (addM M x k)) (x := x) (k := k) hs hk).1 rfl
  unfold aheadI firstI
  rw [← hk2]
  rcases hM with rfl | rfl <;> rcases hc with rfl | rfl | rfl | rfl | rfl | rfl <;> simp only [roundI, addM, M32, M64] <;> omega
section
variable {M p : Int} {b : BS} {n : Nat}
/-- the first n positions from p on are marked, the others of a round are not -/
structure Upto (M : Int) (b : BS) (p : Int) (n : Nat) : Prop where
  fit : b.Fit M
  has : b.hasM = true
  yes : ∀ i : Nat, i < n → b.marked (addM M p i) = true
  no : ∀ i : Nat, n ≤ i → (i : Int) < b.l.c.cap → b.marked (addM M p i) = false
theorem Upto.lay (h : Upto M b p n) (hn : (n : Int) < b.l.c.cap) (t : Int) : Upto M (b.mlay t (addM M p n)) p (n + 1) := by
  have hM := h.fit.M2
  have hc := h.fit.cap
  refine ⟨h.fit.mlay t (addM_in hM _ _), h.fit.mlay_hasM h.has _ _, fun i hi => ?_, fun i hi hic => ?_⟩
  · rw [h.fit.marked_mlay h.has]
    by_cases hin : i = n
    · subst hin; rw [if_pos rfl]; simp
    · rw [if_neg (slot_add hM hc ⟨by omega, by omega⟩ ⟨by omega, hn⟩ (by omega))]
      exact h.yes i (by omega)
  · rw [h.fit.mlay_l h.has] at hic
    rw [h.fit.marked_mlay h.has, if_neg (slot_add hM hc ⟨by omega, hic⟩ ⟨by omega, hn⟩ (by omega))]
    exact h.no i (by omega) hic
theorem Upto.next (h : Upto M b p n) (hn : (n : Int) = b.l.c.cap) (h0 : 0 < n) : b.marked (addM M p n) = false := by
  have hM := h.fit.M2
  have hc := h.fit.cap
  have h1 := h.yes 0 h0
  unfold BS.marked BS.mround at h1 ⊢
  rw [h.has] at h1 ⊢
  simp only [Bool.true_and, decide_eq_true_eq, decide_eq_false_iff_not] at h1 ⊢
  have e : b.mcell (addM M p n) = b.mcell (addM M p (0 : Nat)) := by unfold BS.mcell; rw [hn, slot_wrap hM hc]; rfl
  rw [e, h1, hn]
  exact fun he => round_wrap (p := p) hM hc he.symm
end
theorem marked_new {c : Cf} {M : Int} (hf : (newBS (mkLay c)).Fit M) (hm : (newBS (mkLay c)).hasM = true) (hv : c.variant ≠ 4) {k : Nat} (hk : (k : Int) < c.cap) : (newBS (mkLay c)).marked (addM M (startI c) k) = false := by
  have hM := hf.M2
  have hcap : Cap2 c.cap := by have := hf.cap; rw [show (newBS (mkLay c)).l.c = c from mkLay_c c] at this; exact this
  obtain ⟨h1, h2, h3, h4⟩ := hf.marks hm (addM M (startI c) k)
  have hc : (newBS (mkLay c)).l.c = c := mkLay_c c
  have hl : (newBS (mkLay c)).l = mkLay c := rfl
  have hs := slotI_bd (x := addM M (startI c) k) hcap
  rw [hc] at h1 h3
  rw [hl] at h1 h2 h3
  have hcb := hcap.bd
  have hcells := (mkLay_cells hcap).2
  unfold BS.marked BS.mround
  rw [hm]
  simp only [Bool.true_and, decide_eq_false_iff_not]
  rw [hc, h1]
  have hat := newBS_at (mkLay c) ((mkLay c).marks + slotI c.cap (addM M (startI c) k)).toNat (by omega)
  unfold BS.at_
  rw [List.getD_eq_getElem?_getD, hat]
  have hfirst : (mkLay c).first ((((mkLay c).marks + slotI c.cap (addM M (startI c) k)).toNat : Nat) : Int) = aheadI (MW c.width) c.cap (slotI c.cap (addM M (startI c) k)) (startI c) := by
    rw [Int.toNat_of_nonneg (by omega)]
    have htk : (mkLay c).marks + slotI c.cap (addM M (startI c) k) ≠ (mkLay c).ticket ∧ (mkLay c).marks + slotI c.cap (addM M (startI c) k) ≠ (mkLay c).serving := by
      have hun := hf.un
      rw [hc] at hun
      unfold mkLay at *
      split
      · rename_i hv1; simp [hv1] at h2
      · split
        · dsimp only; omega
        · dsimp only at *; omega
    unfold Lay.first
    rw [if_neg (by omega), if_neg (by omega), mkLay_c, if_neg hv]
    congr 1
    omega
  rw [show (some ((mkLay c).first ((((mkLay c).marks + slotI c.cap (addM M (startI c) k)).toNat : Nat) : Int))).getD 0 = _ from hfirst]
  have hw : MW c.width = M := by have := hf.wd; rw [hc] at this; exact this
  rw [hw]
  exact ahead_not hM hcap ⟨by omega, hk⟩
theorem Upto.new {c : Cf} {M : Int} (hf : (newBS (mkLay c)).Fit M) (hm : (newBS (mkLay c)).hasM = true) (hv : c.variant ≠ 4) : Upto M (newBS (mkLay c)) (startI c) 0 :=
  ⟨hf, hm, fun i hi => by omega, fun i _ hi => marked_new hf hm hv (by rw [show (newBS (mkLay c)).l.c = c from mkLay_c c] at hi; exact hi)⟩
end Go.Proofs.YtnkmlopjinihiaaDoor

namespace Go.Proofs.YtnkmlopjinihiaaDoor
open Go.RowKit
set_option linter.unusedVariables false
set_option linter.unusedSimpArgs false

/-- nothing but the log has turned -/
def SameB (b b' : BS) : Prop := b'.l = b.l ∧ ∀ k, b'.at_ k = b.at_ k
/-- one cell was set -/
def SetB (b b' : BS) (i v : Int) : Prop := b'.l = b.l ∧ ∀ k, 0 ≤ k → b'.at_ k = if k = i then v else b.at_ k
section
variable {M : Int} {b b' : BS}
theorem SameB.refl (b : BS) : SameB b b := ⟨rfl, fun _ => rfl⟩
theorem load_same (b : BS) (t k : Int) : SameB b (b.load t k).2 := ⟨(load_keep b t k 0).2, fun e => (load_keep b t k e).1⟩
theorem read_same (b : BS) (t k : Int) : SameB b (b.read t k).2 := by unfold BS.read; split <;> exact ⟨rfl, fun _ => rfl⟩
theorem read_is {k : Int} (h : b.l.kind k = 2) (t : Int) : (b.read t k).1 = b.at_ k := by unfold BS.read; rw [if_pos h]
theorem lay_set {i : Int} (hok : b.Ok M) (hk : b.l.kind i = 1 ∨ b.l.kind i = 2) (t kind v : Int) : SetB b (b.lay t kind i v) i v := by
  obtain ⟨m, rfl, hml, _⟩ := hok.cell hk
  refine ⟨rfl, fun k h0 => ?_⟩
  rw [at_set (by omega)]
  by_cases h : k = (m : Int)
  · rw [if_pos h, if_pos (by omega)]
  · rw [if_neg h, if_neg (by omega)]
theorem store_set {i : Int} (hok : b.Ok M) (hk : b.l.kind i = 1) (t v : Int) : SetB b (b.store t i v) i v := by unfold BS.store; rw [if_pos hk]; exact lay_set hok (.inl hk) _ _ _
theorem write_set {i : Int} (hok : b.Ok M) (hk : b.l.kind i = 2) (t v : Int) : SetB b (b.write t i v) i v := by unfold BS.write; rw [if_pos hk]; exact lay_set hok (.inr hk) _ _ _
theorem swap_set {i old : Int} (hok : b.Ok M) (hk : b.l.kind i = 1) (ho : b.at_ i = old) (t v : Int) : (b.swap t i old v).1 = true ∧ SetB b (b.swap t i old v).2 i v := by
  unfold BS.swap; rw [if_pos hk, if_pos ho]; exact ⟨rfl, lay_set hok (.inl hk) _ _ _⟩
theorem add_set {i : Int} (hok : b.Ok M) (hk : b.l.kind i = 1) (t n : Int) : (b.add M t i n).1 = b.at_ i ∧ SetB b (b.add M t i n).2 i (addM M (b.at_ i) n) := by
  unfold BS.add; rw [if_pos hk]; exact ⟨rfl, lay_set hok (.inl hk) _ _ _⟩
theorem mlay_setB (h : b.Fit M) (hm : b.hasM = true) (t pos : Int) : SetB b (b.mlay t pos) (b.mcell pos) (b.mround pos) := by
  obtain ⟨kind, hk⟩ := h.mlay_eq hm t pos
  rw [hk]
  exact lay_set h.ok (by rw [(h.marks hm pos).2.2.2]; split <;> simp) _ _ _
theorem mlook_is (h : b.Fit M) (hm : b.hasM = true) (t pos : Int) : (b.mlook t pos).1 = b.marked pos ∧ SameB b (b.mlook t pos).2 := by
  have hk := (h.marks hm pos).2.2.2
  unfold BS.mlook BS.marked
  rw [hm]
  split
  · rename_i h2
    rw [if_pos h2] at hk
    exact ⟨by rw [read_is hk]; simp, read_same _ _ _⟩
  · rename_i h2
    rw [if_neg h2] at hk
    exact ⟨by rw [load_is hk]; simp, load_same _ _ _⟩
theorem SameB.marked (h : SameB b b') (pos : Int) : b'.marked pos = b.marked pos := by
  unfold BS.marked BS.hasM BS.mcell BS.mround
  rw [h.1, h.2]
theorem SameB.upto {p : Int} {n : Nat} (h : SameB b b') (hf : b'.Fit M) (hu : Upto M b p n) : Upto M b' p n :=
  ⟨hf, by unfold BS.hasM; rw [h.1]; exact hu.has, fun i hi => by rw [h.marked]; exact hu.yes i hi, fun i hi hc => by rw [h.marked]; exact hu.no i hi (by rw [h.1] at hc; exact hc)⟩
theorem SetB.marked {i v : Int} (h : SetB b b' i v) (hf : b.Fit M) (hm : b.hasM = true) (hi : i < b.l.marks) (pos : Int) : b'.marked pos = b.marked pos := by
  obtain ⟨e1, h1, _, _⟩ := hf.marks hm pos
  have hs := slotI_bd (x := pos) hf.cap
  have hc : b'.mcell pos = b.mcell pos := by unfold BS.mcell; rw [h.1]
  have hr : b'.mround pos = b.mround pos := by unfold BS.mround; rw [h.1]
  have hh : b'.hasM = b.hasM := by unfold BS.hasM; rw [h.1]
  unfold BS.marked
  rw [hc, hr, hh, h.2 _ (by omega), if_neg (by omega)]
theorem SetB.upto {p : Int} {n : Nat} {i v : Int} (h : SetB b b' i v) (hf : b'.Fit M) (hi : i < b.l.marks) (hu : Upto M b p n) : Upto M b' p n :=
  ⟨hf, by unfold BS.hasM; rw [h.1]; exact hu.has, fun k hk => by rw [h.marked hu.fit hu.has hi]; exact hu.yes k hk, fun k hk hc => by rw [h.marked hu.fit hu.has hi]; exact hu.no k hk (by rw [h.1] at hc; exact hc)⟩
end
theorem addM_addM {M : Int} (hM : M = M32 ∨ M = M64) (x a c : Int) : addM M (addM M x a) c = addM M x (a + c) := by
  rcases hM with rfl | rfl <;> unfold addM <;> simp only [M32, M64] <;> omega
theorem addM_zero {M x : Int} (hx : InM M x) : addM M x 0 = x := by unfold InM at hx; unfold addM; rw [Int.add_zero]; exact Int.emod_eq_of_lt hx.1 hx.2
/-- what was published is behind: from there on nothing is marked -/
theorem Upto.shift {M p : Int} {b : BS} {n : Nat} (h : Upto M b p n) (hn : (n : Int) ≤ b.l.c.cap) : Upto M b (addM M p n) 0 := by
  have hM := h.fit.M2
  have hc := h.fit.cap
  refine ⟨h.fit, h.has, fun i hi => by omega, fun i _ hi => ?_⟩
  rw [addM_addM hM]
  by_cases hlt : (n : Int) + i < b.l.c.cap
  · have h1 := h.no (n + i) (by omega) (by omega)
    rwa [Int.natCast_add] at h1
  · obtain ⟨k, hk⟩ : ∃ k : Nat, (n : Int) + i = k + b.l.c.cap := ⟨((n : Int) + i - b.l.c.cap).toNat, by omega⟩
    have h1 := h.yes k (by omega)
    rw [hk, ← addM_addM hM]
    have hp := addM_in hM p k
    generalize addM M p k = r at h1 hp
    unfold BS.marked BS.mround at h1 ⊢
    rw [h.has] at h1 ⊢
    simp only [Bool.true_and, decide_eq_true_eq, decide_eq_false_iff_not] at h1 ⊢
    have e : b.mcell (addM M r b.l.c.cap) = b.mcell r := by unfold BS.mcell; rw [slot_wrap hM hc, addM_zero hp]
    have e2 := round_wrap (p := r) hM hc
    rw [addM_zero hp] at e2
    rw [e, h1]
    exact fun he => e2 he.symm
/-- what is behind the last one published is not marked -/
theorem Upto.end_ {M p : Int} {b : BS} {n : Nat} (h : Upto M b p n) (hn : (n : Int) ≤ b.l.c.cap) : b.marked (addM M p n) = false := by
  have hM := h.fit.M2
  have hb := h.fit.cap.bd
  have h1 := (h.shift hn).no 0 (by omega) (by omega)
  rw [addM_addM hM] at h1
  simpa using h1

/-- gates at x, the claimed cell at y, n positions from p on marked -/
structure BG (M : Int) (q : SqC) (N : Nat) (ck x y p : Int) (n : Nat) (b : BS) : Prop where
  kinds : ∀ e ∈ q.ends, b.l.kind e = 1
  lo : ∀ e ∈ q.ends, 0 ≤ e ∧ e < (N : Int)
  gates : ∀ e ∈ q.ends, b.at_ e = x
  ce : (N : Int) ≤ q.cell ∧ q.cell < b.l.marks
  kc : b.l.kind q.cell = ck
  at_ : b.at_ q.cell = y
  upto : Upto M b p n
section
variable {M : Int} {q : SqC} {N : Nat} {ck x y p : Int} {n : Nat} {b b' : BS}
theorem BG.same (h : BG M q N ck x y p n b) (hs : SameB b b') (hf : b'.Fit M) : BG M q N ck x y p n b' :=
  ⟨fun e he => by rw [hs.1]; exact h.kinds e he, h.lo, fun e he => by rw [hs.2]; exact h.gates e he, by rw [hs.1]; exact h.ce, by rw [hs.1]; exact h.kc, by rw [hs.2]; exact h.at_, hs.upto hf h.upto⟩
theorem BG.cell {v : Int} (h : BG M q N ck x y p n b) (hs : SetB b b' q.cell v) (hf : b'.Fit M) : BG M q N ck x v p n b' := by
  have hce := h.ce
  refine ⟨fun e he => by rw [hs.1]; exact h.kinds e he, h.lo, fun e he => ?_, by rw [hs.1]; exact h.ce, by rw [hs.1]; exact h.kc, ?_, hs.upto hf h.ce.2 h.upto⟩
  · have hl := h.lo e he
    rw [hs.2 e hl.1, if_neg (by omega)]; exact h.gates e he
  · rw [hs.2 _ (by omega), if_pos rfl]
theorem BG.other {i v : Int} (h : BG M q N ck x y p n b) (hs : SetB b b' i v) (hf : b'.Fit M) (hi : (N : Int) ≤ i ∧ i < b.l.marks) (hne : i ≠ q.cell) : BG M q N ck x y p n b' := by
  have hce := h.ce
  refine ⟨fun e he => by rw [hs.1]; exact h.kinds e he, h.lo, fun e he => ?_, by rw [hs.1]; exact h.ce, by rw [hs.1]; exact h.kc, ?_, hs.upto hf hi.2 h.upto⟩
  · have hl := h.lo e he
    rw [hs.2 e hl.1, if_neg (by omega)]; exact h.gates e he
  · rw [hs.2 _ (by omega), if_neg (fun he => hne he.symm)]; exact h.at_
theorem BG.lay (h : BG M q N ck x y p n b) (hn : (n : Int) < b.l.c.cap) (t : Int) : BG M q N ck x y p (n + 1) (b.mlay t (addM M p n)) := by
  have hce := h.ce
  have hs := mlay_setB h.upto.fit h.upto.has t (addM M p n)
  have hm := h.upto.fit.marks h.upto.has (addM M p n)
  have hsl := slotI_bd (x := addM M p n) h.upto.fit.cap
  refine ⟨fun e he => by rw [hs.1]; exact h.kinds e he, h.lo, fun e he => ?_, by rw [hs.1]; exact h.ce, by rw [hs.1]; exact h.kc, ?_, h.upto.lay hn t⟩
  · have hl := h.lo e he
    rw [hs.2 e hl.1, if_neg (by omega)]; exact h.gates e he
  · rw [hs.2 _ (by omega), if_neg (by omega)]; exact h.at_
theorem BG.shift (h : BG M q N ck x y p n b) (hn : (n : Int) ≤ b.l.c.cap) : BG M q N ck x y (addM M p n) 0 b :=
  ⟨h.kinds, h.lo, h.gates, h.ce, h.kc, h.at_, h.upto.shift hn⟩
end
/-- gates follow: those below j are at y -/
structure BP (M : Int) (q : SqC) (N : Nat) (ck y : Int) (j : Nat) (b : BS) : Prop where
  kinds : ∀ e ∈ q.ends, b.l.kind e = 1
  lo : ∀ e ∈ q.ends, 0 ≤ e ∧ e < (N : Int)
  all : ∀ k : Nat, k < N → (k : Int) ∈ q.ends
  gates : ∀ e ∈ q.ends, e < j → b.at_ e = y
  ce : (N : Int) ≤ q.cell ∧ q.cell < b.l.marks
  kc : b.l.kind q.cell = ck
  at_ : b.at_ q.cell = y
  upto : Upto M b y 0
section
variable {M : Int} {q : SqC} {N : Nat} {ck x y : Int} {j : Nat} {b b' : BS}
theorem BP.start (h : BG M q N ck x y y 0 b) (ha : ∀ k : Nat, k < N → (k : Int) ∈ q.ends) : BP M q N ck y 0 b :=
  ⟨h.kinds, h.lo, ha, fun e he hlt => by have := h.lo e he; omega, h.ce, h.kc, h.at_, h.upto⟩
theorem BP.step (h : BP M q N ck y j b) (hj : j < N) (hy : InM M y) (t : Int) : BP M q N ck y (j + 1) (b.store t j y) := by
  have hce := h.ce
  have hkj := h.kinds j (h.all j hj)
  have hs := store_set h.upto.fit.ok hkj t y
  have hf := h.upto.fit.store t j hy
  refine ⟨fun e he => by rw [hs.1]; exact h.kinds e he, h.lo, h.all, fun e he hlt => ?_, by rw [hs.1]; exact h.ce, by rw [hs.1]; exact h.kc, ?_, hs.upto hf (by omega) h.upto⟩
  · have hl := h.lo e he
    rw [hs.2 e hl.1]
    split
    · rfl
    · exact h.gates e he (by omega)
  · rw [hs.2 _ (by omega), if_neg (by omega)]; exact h.at_
theorem BP.done (h : BP M q N ck y j b) (hj : N ≤ j) : BG M q N ck y y y 0 b :=
  ⟨h.kinds, h.lo, fun e he => h.gates e he (by have := h.lo e he; omega), h.ce, h.kc, h.at_, h.upto⟩
end
/-! a scan of gates that are all x -/
theorem scanP_all {M : Int} {b : BS} {ends : List Int} {x : Int} {f : FrS} (hM : M = M32 ∨ M = M64) (hk : ∀ e ∈ ends, b.l.kind e = 1) (hg : ∀ e ∈ ends, b.at_ e = x) (t : Int) (i : Nat) (hi : f.i = i) (hlt : i < ends.length) (hm : 1 ≤ i → f.min = x) :
    ∃ b', SameB b b' ∧ (b.Fit M → b'.Fit M) ∧ scanP M b t ends f = if i + 1 < ends.length then (false, b', { f with min := x, i := f.i + 1 }) else (true, b', { f with min := x, i := 0 }) := by
  have hgt := List.getElem?_eq_getElem hlt
  have hmem := List.getElem_mem hlt
  have hgd : ends.getD f.i.toNat 0 = ends[i] := by rw [hi]; simp [List.getD_eq_getElem?_getD, hgt]
  generalize ends[i] = e at *
  have hv : (b.load t e).1 = x := by rw [load_is (hk e hmem)]; exact hg e hmem
  have hmin : minP M f.i (b.load t e).1 f.min = x := by
    rw [hv]
    unfold minP
    by_cases h0 : i = 0
    · rw [if_pos (.inl (by omega))]
    · rw [if_neg (by rw [hm (by omega)]; exact fun hh => hh.elim (by omega) (dif_self hM))]; exact hm (by omega)
  refine ⟨(b.load t e).2, load_same b t e, fun hf => hf.load t e, ?_⟩
  unfold scanP
  rw [if_neg (by omega), hgd, hmin]
  by_cases hl : i + 1 < ends.length
  · rw [if_pos hl, if_pos (by omega)]
  · rw [if_neg hl, if_neg (by omega)]
end Go.Proofs.YtnkmlopjinihiaaDoor

namespace Go.Proofs.YtnkmlopjinihiaaDoor
open Go.RowKit
set_option linter.unusedVariables false
set_option linter.unusedSimpArgs false

/-! how a case is made -/
def cfN (v wd cp np st : Int) (A : Option Addr) (N c : Nat) : Cf := ⟨v, wd, cp, np, st, A, N, c⟩
def qN (v wd cp np st : Int) (A : Option Addr) (N c : Nat) (cell : Int) (EA : Option Addr) (EC : Nat) : SqC := ⟨cfN v wd cp np st A N c, endsP (List.replicate N []), cell, EA, EC⟩
def sN (v wd cp np st M : Int) (A : Option Addr) (N c : Nat) : SqN := ⟨newBS (mkLay (cfN v wd cp np st A N c)), [], List.replicate np.toNat (cutM M st)⟩
/-- what stands of a case -/
structure CaseN (v wd cp np st M : Int) (N : Nat) : Prop where
  v5 : 2 ≤ v ∧ v ≤ 5
  wid : wd = 32 ∨ wd = 64
  cap : Cap2 cp
  c16 : cp ≤ 16
  pr : 1 ≤ np ∧ np ≤ 4
  n : 1 ≤ N ∧ N ≤ 6
  sta : 0 ≤ st ∧ st ≤ 18446744073709551615
  m : M = MW wd
section
variable {v wd cp np st M : Int} {A EA : Option Addr} {N c EC : Nat} {cell : Int}
theorem CaseN.M2 (h : CaseN v wd cp np st M N) : M = M32 ∨ M = M64 := by
  have := h.m; rcases h.wid with rfl | rfl
  · exact .inl (this.trans MW_32)
  · exact .inr (this.trans MW_64)
theorem CaseN.conf (h : CaseN v wd cp np st M N) : CfOk (cfN v wd cp np st A N c) (List.replicate N []) :=
  ⟨⟨by have := h.v5; show 1 ≤ v; omega, h.v5.2⟩, h.wid, h.cap, h.pr, fun hv => by have := h.v5; change v = 1 at hv; omega, upOk_nils h.n⟩
theorem CaseN.fit (h : CaseN v wd cp np st M N) : (newBS (mkLay (cfN v wd cp np st A N c))).Fit M := by
  rw [h.m]; exact newBS_fit (cfN v wd cp np st A N c) h.conf (by show N = _; simp)
theorem CaseN.lc : (newBS (mkLay (cfN v wd cp np st A N c))).l.c = cfN v wd cp np st A N c := mkLay_c _
theorem CaseN.st0 (h : CaseN v wd cp np st M N) : StN M (qN v wd cp np st A N c cell EA EC) 0 (sN v wd cp np st M A N c) :=
  ⟨h.fit, CaseN.lc, Nat.le_refl _, Nat.le_refl _, endsP_len _, by show ((List.replicate np.toNat (cutM M st)).length : Int) = np; have := h.pr; simp; omega⟩
theorem CaseN.ends (h : CaseN v wd cp np st M N) (e : Int) : e ∈ (qN v wd cp np st A N c cell EA EC).ends ↔ 0 ≤ e ∧ e < N := nils_ends h.n e
theorem CaseN.ends1 (h : CaseN v wd cp np st M N) : 1 ≤ (qN v wd cp np st A N c cell EA EC).ends.length := nils_one h.n
theorem CaseN.cutIn (h : CaseN v wd cp np st M N) : InM M (cutM M st) := cutM_in h.M2 _
/-- no lock: the cells of the gates, and of the claim -/
theorem CaseN.lay (h : CaseN v wd cp np st M N) (hv : v ≠ 5) : mkLay (cfN v wd cp np st A N c) = ⟨cfN v wd cp np st A N c, -1, N, -1, -1, -1, N + 1, N + 1 + cp, N + 1 + cp + cp⟩ := by
  have := h.v5
  unfold mkLay
  rw [if_neg (by show ¬ v = 1; omega), if_neg (by show ¬ v = 5; exact hv)]
  rfl
theorem CaseN.layL (h : CaseN v wd cp np st M N) (hv : v = 5) : mkLay (cfN v wd cp np st A N c) = ⟨cfN v wd cp np st A N c, -1, -1, N, N + 1, N + 2, N + 3, N + 3 + cp, N + 3 + cp + cp⟩ := by
  unfold mkLay
  rw [if_neg (by show ¬ v = 1; omega), if_pos (by show v = 5; exact hv)]
  rfl
theorem CaseN.kind (h : CaseN v wd cp np st M N) (hv : v ≠ 5) {k : Int} (hk : 0 ≤ k ∧ k ≤ N) : (mkLay (cfN v wd cp np st A N c)).kind k = 1 := by
  have hb := h.cap.bd
  rw [h.lay hv]
  unfold Lay.kind
  dsimp only
  rw [if_neg (by omega), if_neg (by omega), if_neg]
  intro hh
  have h5 : v = 5 := by
    first
      | exact hh.2.2
      | exact hh.1
      | omega
  exact hv h5
theorem CaseN.at_ (h : CaseN v wd cp np st M N) (hv : v ≠ 5) (k : Nat) (hk : k ≤ N) : (newBS (mkLay (cfN v wd cp np st A N c))).at_ k = cutM M st := by
  have hb := h.cap.bd
  unfold BS.at_
  have h1 := newBS_at (mkLay (cfN v wd cp np st A N c)) k (by rw [h.lay hv]; dsimp only; omega)
  rw [List.getD_eq_getElem?_getD, Int.toNat_natCast, h1]
  show (mkLay (cfN v wd cp np st A N c)).first k = _
  rw [h.lay hv]
  unfold Lay.first
  dsimp only
  rw [if_neg (by omega), if_pos (by omega)]
  show startI (cfN v wd cp np st A N c) = _
  unfold startI
  rw [h.m]
  rfl
theorem CaseN.has (h : CaseN v wd cp np st M N) (hv : v ≠ 4) : (newBS (mkLay (cfN v wd cp np st A N c))).hasM = true := by
  rw [made_marks]
  have := h.v5
  show decide (mkKind v ≠ 0) = true
  unfold mkKind
  apply decide_eq_true
  split
  · decide
  · rw [if_pos (by omega)]; decide
/-- between calls, at the start -/
theorem CaseN.rest (h : CaseN v wd cp np st M N) (hv : v = 2 ∨ v = 3) : BG M (qN v wd cp np st A N c N EA EC) N 1 (cutM M st) (cutM M st) (cutM M st) 0 (newBS (mkLay (cfN v wd cp np st A N c))) := by
  have h5 : v ≠ 5 := by omega
  have hb := h.cap.bd
  have hl : (newBS (mkLay (cfN v wd cp np st A N c))).l = mkLay (cfN v wd cp np st A N c) := rfl
  refine ⟨fun e he => ?_, fun e he => (h.ends e).1 he, fun e he => ?_, ?_, ?_, ?_, ?_⟩
  · have h1 := (h.ends e).1 he
    rw [hl]; exact h.kind h5 ⟨h1.1, by omega⟩
  · have h1 := (h.ends e).1 he
    obtain ⟨k, rfl⟩ := Int.eq_ofNat_of_zero_le h1.1
    exact h.at_ h5 k (by omega)
  · rw [hl, h.lay h5]
    exact ⟨Int.le_refl _, by show (N : Int) < N + 1; omega⟩
  · rw [hl]; exact h.kind h5 ⟨by show (0 : Int) ≤ (N : Int); omega, Int.le_refl _⟩
  · exact h.at_ h5 N (Nat.le_refl _)
  · have hu := Upto.new (c := cfN v wd cp np st A N c) h.fit (h.has (by omega)) (by show v ≠ 4; omega)
    have hs : startI (cfN v wd cp np st A N c) = cutM M st := by unfold startI; rw [h.m]; rfl
    rw [hs] at hu
    exact hu
end
/-! a run keeps the board in order -/
section
variable {M : Int} {q : SqC} {n : Nat} {s : SqN} {f : FrS}
theorem StN.mono {m : Nat} (h : StN M q n s) (hm : n ≤ m) : StN M q m s := ⟨h.fit, h.conf, by have := h.log; omega, by have := h.ev; omega, h.ends, h.len⟩
theorem StN.brd (h : StN M q n s) {b : BS} (hf : b.Fit M) (hl : b.l = s.b.l) (hg : b.log.length ≤ s.b.log.length + 1) : StN M q (n + 1) { s with b := b } :=
  ⟨hf, by show b.l.c = _; rw [hl]; exact h.conf, by have := h.log; show b.log.length ≤ _; omega, by have := h.ev; show s.ev.length ≤ _; omega, h.ends, h.len⟩
theorem StN.evs (h : StN M q (n + 1) s) {l : List Ev} (hl : s.ev.length ≤ 2 * n) (hn : l.length ≤ 2) : StN M q (n + 1) { s with ev := s.ev ++ l } :=
  ⟨h.fit, h.conf, h.log, by show (s.ev ++ l).length ≤ _; rw [List.length_append]; omega, h.ends, h.len⟩
theorem StN.set (h : StN M q n s) (k : Nat) (x : Int) : StN M q n { s with least := s.least.set k x } :=
  ⟨h.fit, h.conf, h.log, h.ev, h.ends, by show ((s.least.set k x).length : Int) = _; rw [List.length_set]; exact h.len⟩
theorem read_log (b : BS) (t k : Int) : (b.read t k).2.log.length ≤ b.log.length + 1 := by unfold BS.read; split <;> simp [BS.look, BS.note]
theorem swap_log (b : BS) (t k o v : Int) : (b.swap t k o v).2.log.length ≤ b.log.length + 1 := by unfold BS.swap; split <;> (try split) <;> simp [BS.look, BS.note, BS.lay]
theorem add_log (M : Int) (b : BS) (t k m : Int) : (b.add M t k m).2.log.length ≤ b.log.length + 1 := by unfold BS.add; split <;> simp [BS.lay]
theorem store_log (b : BS) (t k v : Int) : (b.store t k v).log.length ≤ b.log.length + 1 := by unfold BS.store; split <;> simp [BS.lay]
theorem write_log (b : BS) (t k v : Int) : (b.write t k v).log.length ≤ b.log.length + 1 := by unfold BS.write; split <;> simp [BS.lay]
theorem swap_l (b : BS) (t k o v : Int) : (b.swap t k o v).2.l = b.l := by unfold BS.swap; split <;> (try split) <;> rfl
theorem add_l (M : Int) (b : BS) (t k m : Int) : (b.add M t k m).2.l = b.l := by unfold BS.add; split <;> rfl
theorem read_l (b : BS) (t k : Int) : (b.read t k).2.l = b.l := by unfold BS.read; split <;> rfl
theorem write_l (b : BS) (t k v : Int) : (b.write t k v).l = b.l := by unfold BS.write; split <;> rfl
theorem mlay_l (b : BS) (t pos : Int) : (b.mlay t pos).l = b.l := by unfold BS.mlay; split; exact write_l _ _ _ _; exact store_l _ _ _ _
theorem mlay_log (b : BS) (t pos : Int) : (b.mlay t pos).log.length ≤ b.log.length + 1 := by unfold BS.mlay; split; exact write_log _ _ _ _; exact store_log _ _ _ _
theorem mlook_l (b : BS) (t pos : Int) : (b.mlook t pos).2.l = b.l := by unfold BS.mlook; split; exact read_l _ _ _; exact BS.load_l _ _ _
theorem mlook_log (b : BS) (t pos : Int) : (b.mlook t pos).2.log.length ≤ b.log.length + 1 := by unfold BS.mlook; split; exact read_log _ _ _; exact BS.load_log _ _ _
theorem publishP_st (h : s.b.Fit M) (t : Int) (f : FrS) : (publishP M s.b t f).2.1.Fit M ∧ (publishP M s.b t f).2.1.l = s.b.l ∧ (publishP M s.b t f).2.1.log.length ≤ s.b.log.length + 1 := by
  unfold publishP
  split
  · exact ⟨h, rfl, Nat.le_succ _⟩
  · split
    · split
      · exact ⟨h.mlay t (addM_in h.M2 _ _), mlay_l _ _ _, mlay_log _ _ _⟩
      · exact ⟨h.mlay t (addM_in h.M2 _ _), mlay_l _ _ _, mlay_log _ _ _⟩
    · exact ⟨h, rfl, Nat.le_succ _⟩
theorem seekP_st (h : s.b.Fit M) (t : Int) (f : FrS) : (seekP M s.b t f).2.1.Fit M ∧ (seekP M s.b t f).2.1.l = s.b.l ∧ (seekP M s.b t f).2.1.log.length ≤ s.b.log.length + 1 := by
  unfold seekP
  split
  · exact ⟨h, rfl, Nat.le_succ _⟩
  · split
    · exact ⟨h.mlook t _, mlook_l _ _ _, mlook_log _ _ _⟩
    · exact ⟨h.mlook t _, mlook_l _ _ _, mlook_log _ _ _⟩
theorem StN.scan (h : StN M q n s) (t : Int) (f : FrS) : StN M q (n + 1) (s.scan M q t f).2.1 := by
  unfold SqN.scan
  split
  · exact h.brd (scanP_fit h.fit t _ _) (scanP_l _ _ _ _ _) (scanP_log _ _ _ _ _)
  · exact (h.brd (scanP_fit h.fit t _ _) (scanP_l _ _ _ _ _) (scanP_log _ _ _ _ _)).set _ _
theorem StN.scanEv (h : StN M q n s) (t : Int) (f : FrS) : (s.scan M q t f).2.1.ev.length ≤ 2 * n := by unfold SqN.scan; split <;> exact h.ev
theorem StN.claim2 (h : StN M q n s) (t : Int) (f : FrS) : StN M q (n + 1) (claim2 M q t s f).2.1 := by
  unfold Go.Proofs.YtnkmlopjinihiaaDoor.claim2
  split
  · exact h.mono (by omega)
  · split
    · unfold scan2; split <;> exact h.scan t f
    · split
      · unfold swap2
        have h1 := h.brd (h.fit.swap t q.cell f.from_ (addM_in h.fit.M2 f.from_ f.n)) (swap_l _ _ _ _ _) (swap_log _ _ _ _ _)
        split
        · exact h1
        · have h2 := h1.evs (l := [takeEv t f] ++ [grantEv t]) h.ev (by simp)
          unfold tookQ
          rw [List.append_assoc]
          exact h2
      · exact h.brd (h.fit.load t q.cell) (BS.load_l _ _ _) (BS.load_log _ _ _)
theorem StN.claim3 (h : StN M q n s) (t : Int) (f : FrS) : StN M q (n + 1) (claim3 M q t s f).2.1 := by
  unfold Go.Proofs.YtnkmlopjinihiaaDoor.claim3
  split
  · exact h.mono (by omega)
  · split
    · unfold begin3
      have h1 := h.brd (h.fit.add t q.cell f.n) (add_l _ _ _ _ _) (add_log _ _ _ _ _)
      split
      · have h2 := h1.evs (l := [takeEv t { f with from_ := (s.b.add M t q.cell f.n).1 }] ++ [grantEv t]) h.ev (by simp)
        unfold tookQ
        rw [List.append_assoc]
        exact h2
      · exact h1.evs (l := [takeEv t { f with from_ := (s.b.add M t q.cell f.n).1 }]) h.ev (by simp)
    · unfold scan3
      split
      · exact h.scan t f
      · split
        · exact h.scan t f
        · exact (h.scan t f).evs (l := [grantEv t]) (h.scanEv t f) (by simp)
theorem StN.publish2 (h : StN M q n s) (t : Int) (f : FrS) : StN M q (n + 1) (publish2 M q t s f).2.1 := by
  unfold Go.Proofs.YtnkmlopjinihiaaDoor.publish2
  have hp := publishP_st h.fit t f
  split
  · exact h.mono (by omega)
  · exact (h.brd hp.1 hp.2.1 hp.2.2).evs (l := [putEv t 1 (addM M f.from_ f.i)]) h.ev (by simp)
theorem StN.tip2 (h : StN M q n s) (t : Int) (f : FrS) : StN M q (n + 1) (tip2 M t s f).2.1 := by
  have hp := seekP_st h.fit t f
  exact h.brd hp.1 hp.2.1 hp.2.2
theorem StN.gate (h : StN M q n s) (t k : Int) {v : Int} (hv : InM M v) : StN M q (n + 1) { s with b := s.b.store t k v } :=
  h.brd (h.fit.store t k hv) (store_l _ _ _ _) (store_log _ _ _ _)
end
/-! marks: publishing and looking -/
section
variable {M : Int} {q : SqC} {N : Nat} {ck x y n : Int} {s : SqN} {f : FrS}
def TkM (M : Int) (q : SqC) (N : Nat) (ck x n : Int) (s : SqN) : Prop := InM M x ∧ 1 ≤ n ∧ n ≤ q.c.cap ∧ BG M q N ck x (addM M x n) x 0 s.b ∧ 2 ≤ s.ev.length
def PdM (M : Int) (q : SqC) (N : Nat) (ck x n : Int) (s : SqN) : Prop := InM M x ∧ 1 ≤ n ∧ n ≤ q.c.cap ∧ BG M q N ck x (addM M x n) x n.toNat s.b ∧ 3 ≤ s.ev.length
def GPM (M : Int) (q : SqC) (N : Nat) (ck y : Int) (j : Nat) (s : SqN) : Prop := BP M q N ck y j s.b ∧ InM M y ∧ 3 ≤ s.ev.length
def RestM (M : Int) (q : SqC) (N : Nat) (ck x : Int) (s : SqN) : Prop := BG M q N ck x x x 0 s.b
theorem in_0 {M : Int} (hM : M = M32 ∨ M = M64) : InM M 0 := by rcases hM with rfl | rfl <;> unfold InM <;> decide
theorem fok {M : Int} {f : FrS} (h1 : InM M f.from_) (h2 : InM M f.val) (h3 : 0 ≤ f.i ∧ f.i ≤ 1000000) (h4 : 0 ≤ f.j ∧ f.j ≤ 1000000) : FOk M f := ⟨h1, h2, h3, h4⟩
theorem mark_step {j : Nat} (h : BG M q N ck x y x j s.b) (hcf : s.b.l.c = q.c) (hx : InM M x) (t : Int) (hf : f.from_ = x) (hi : f.i = (j : Nat)) (hlt : f.i < f.n) (hc : f.n ≤ q.c.cap) :
    BG M q N ck x y x (j + 1) (publishP M s.b t f).2.1 ∧ (publishP M s.b t f).1 = decide (¬ f.i + 1 < f.n) ∧ (publishP M s.b t f).2.2 = (if f.i + 1 < f.n then { f with i := f.i + 1 } else { f with i := 0 }) := by
  have hl := h.lay (by rw [hcf]; omega) t
  unfold publishP
  rw [if_neg (by simp [h.upto.has]), if_pos (show f.inside from ⟨by omega, hlt⟩), hf, hi]
  by_cases h1 : (j : Int) + 1 < f.n
  · rw [if_pos h1, if_pos h1]
    exact ⟨hl, (decide_eq_false (fun hh => hh h1)).symm, rfl⟩
  · rw [if_neg h1, if_neg h1]
    exact ⟨hl, (decide_eq_true h1).symm, rfl⟩
theorem seek_step {k : Nat} (h : BG M q N ck x y x k s.b) (hcf : s.b.l.c = q.c) (hk : (k : Int) ≤ q.c.cap) (t : Int) (j : Nat) (hj : j ≤ k) (hf : f.val = addM M x j) :
    BG M q N ck x y x k (seekP M s.b t f).2.1 ∧ (seekP M s.b t f).1 = decide (¬ j < k) ∧ (seekP M s.b t f).2.2 = (if j < k then { f with val := addM M x (j + 1 : Nat) } else f) := by
  have hM := h.upto.fit.M2
  have hm := mlook_is h.upto.fit h.upto.has t f.val
  have hb := h.same hm.2 (h.upto.fit.mlook t f.val)
  unfold seekP
  rw [if_neg (by simp [h.upto.has]), hm.1, hf]
  by_cases h1 : j < k
  · rw [h.upto.yes j h1, if_pos rfl, if_pos h1, addM_addM hM]
    rw [hf] at hb
    exact ⟨hb, (decide_eq_false (fun hh => hh h1)).symm, by rw [Int.natCast_add]; rfl⟩
  · have he : j = k := by omega
    subst he
    rw [h.upto.end_ (by rw [hcf]; exact hk), if_neg (by decide), if_neg h1]
    rw [hf] at hb
    exact ⟨hb, (decide_eq_true h1).symm, rfl⟩
end
section
variable {M : Int} {q : SqC} {N : Nat} {x n : Int} {s : SqN} {f : FrS}
structure PP2 (M : Int) (q : SqC) (N : Nat) (x n : Int) (j : Nat) (s : SqN) (f : FrS) : Prop where
  xm : InM M x
  n1 : 1 ≤ n
  n2 : n ≤ q.c.cap
  fr : f = { n := n, from_ := x, i := j }
  lt : (j : Int) < n
  bg : BG M q N 1 x (addM M x n) x j s.b
  ev : 2 + j ≤ s.ev.length
structure TP2 (M : Int) (q : SqC) (N : Nat) (x n : Int) (j : Nat) (s : SqN) (f : FrS) : Prop where
  xm : InM M x
  n1 : 1 ≤ n
  n2 : n ≤ q.c.cap
  fr : f = { val := addM M x j }
  le : (j : Int) ≤ n
  bg : BG M q N 1 x (addM M x n) x n.toNat s.b
  ev : 3 ≤ s.ev.length
theorem pp2_step (hnp : 1 ≤ q.c.producers) {j : Nat} (hcf : s.b.l.c = q.c) (h : PP2 M q N x n j s f) :
    ((publish2 M q 0 s f).1 = true ∧ PdM M q N 1 x n (publish2 M q 0 s f).2.1) ∨ ((publish2 M q 0 s f).1 = false ∧ PP2 M q N x n (j + 1) (publish2 M q 0 s f).2.1 (publish2 M q 0 s f).2.2) := by
  obtain ⟨xm, n1, n2, rfl, lt, bg, ev⟩ := h
  have hmay : mayP q 0 ({ n := n, from_ := x, i := j } : FrS) = true := decide_eq_true ⟨Int.le_refl 0, by omega, n1, n2⟩
  obtain ⟨h1, h2, h3⟩ := mark_step (f := ({ n := n, from_ := x, i := j } : FrS)) bg hcf xm 0 rfl rfl lt n2
  unfold publish2
  rw [if_neg (by rw [hmay]; decide)]
  dsimp only at h2 h3 ⊢
  rw [h2, h3]
  by_cases hl : (j : Int) + 1 < n
  · refine .inr ⟨decide_eq_false (fun hh => hh hl), xm, n1, n2, ?_, by omega, h1, by simp; omega⟩
    rw [if_pos hl]; rfl
  · have hj : n.toNat = j + 1 := by omega
    refine .inl ⟨decide_eq_true hl, xm, n1, n2, ?_, by simp; omega⟩
    rw [hj]; exact h1
theorem tp2_step {j : Nat} (t : Int) (hcf : s.b.l.c = q.c) (ha : ∀ k : Nat, k < N → (k : Int) ∈ q.ends) (h : TP2 M q N x n j s f) :
    ((tip2 M t s f).1 = true ∧ GPM M q N 1 (addM M x n) 0 (tip2 M t s f).2.1 ∧ (tip2 M t s f).2.2.val = addM M x n) ∨ ((tip2 M t s f).1 = false ∧ TP2 M q N x n (j + 1) (tip2 M t s f).2.1 (tip2 M t s f).2.2) := by
  obtain ⟨xm, n1, n2, rfl, le, bg, ev⟩ := h
  have hM := bg.upto.fit.M2
  obtain ⟨h1, h2, h3⟩ := seek_step (f := ({ val := addM M x j } : FrS)) bg hcf (by omega) t j (by omega) rfl
  unfold tip2
  dsimp only at h2 h3 ⊢
  rw [h2, h3]
  by_cases hl : j < n.toNat
  · refine .inr ⟨decide_eq_false (fun hh => hh hl), xm, n1, n2, ?_, by omega, h1, ev⟩
    rw [if_pos hl]
  · have hj : (j : Int) = n := by omega
    refine .inl ⟨decide_eq_true hl, ⟨?_, addM_in hM _ _, ev⟩, ?_⟩
    · have h4 := h1.shift (by have := h1.upto.fit; rw [show (seekP M s.b t ({ val := addM M x j } : FrS)).2.1.l.c = q.c by rw [(seekP_st bg.upto.fit t _).2.1]; exact hcf]; omega)
      rw [show ((n.toNat : Nat) : Int) = n by omega] at h4
      exact BP.start h4 ha
    · rw [if_neg hl, hj]
/-! variant 2 -/
structure CP2 (M : Int) (q : SqC) (N : Nat) (x n : Int) (j : Nat) (s : SqN) (f : FrS) : Prop where
  xm : InM M x
  n1 : 1 ≤ n
  n2 : n ≤ q.c.cap
  bg : BG M q N 1 x x x 0 s.b
  fn : f.n = n
  val : f.val = 0
  jj : f.j = 0
  at_ : (j = 0 ∧ f.pc = 0 ∧ f.from_ = 0 ∧ f.i = 0) ∨ (∃ i : Nat, j = i + 1 ∧ f.pc = 1 ∧ f.from_ = x ∧ f.i = i ∧ i < q.ends.length ∧ (1 ≤ i → f.min = x)) ∨ (f.pc = 2 ∧ f.from_ = x ∧ j ≤ q.ends.length + 1 ∧ f.i = 0)
theorem lst_set {l : List Int} {x : Int} (h : 0 < l.length) (b : BS) (e : List Ev) : SqN.lst { b := b, ev := e, least := l.set (0 : Int).toNat x } 0 = x := by
  unfold SqN.lst
  simp [List.getD_eq_getElem?_getD, h]
theorem cp2_step (hc64 : q.c.cap ≤ 64) (hnp : 1 ≤ q.c.producers) (he1 : 1 ≤ q.ends.length) (hlen : (s.least.length : Int) = q.c.producers) {j : Nat} (h : CP2 M q N x n j s f) :
    ((claim2 M q 0 s f).1 = true ∧ TkM M q N 1 x n (claim2 M q 0 s f).2.1 ∧ (claim2 M q 0 s f).2.2.from_ = x) ∨ ((claim2 M q 0 s f).1 = false ∧ CP2 M q N x n (j + 1) (claim2 M q 0 s f).2.1 (claim2 M q 0 s f).2.2) := by
  obtain ⟨xm, n1, n2, bg, fn, val, jj, at_⟩ := h
  have hM := bg.upto.fit.M2
  have hmay : mayP q 0 f = true := decide_eq_true ⟨Int.le_refl 0, by omega, by omega, by omega⟩
  unfold claim2
  rw [if_neg (by rw [hmay]; decide)]
  rcases at_ with ⟨rfl, hpc, hfr, hi⟩ | ⟨i, rfl, hpc, hfr, hi, hil, hmn⟩ | ⟨hpc, hfr, hjl, hi⟩
  · rw [if_neg (by omega), if_neg (by omega)]
    have hv : (s.b.load 0 q.cell).1 = x := by rw [load_is bg.kc]; exact bg.at_
    refine .inr ⟨rfl, xm, n1, n2, bg.same (load_same _ _ _) (bg.upto.fit.load _ _), fn, val, jj, ?_⟩
    unfold begin2
    dsimp only
    rw [hv]
    unfold nextQ
    split
    · exact .inr (.inr ⟨rfl, rfl, by omega, rfl⟩)
    · exact .inr (.inl ⟨0, rfl, rfl, rfl, rfl, by omega, fun hh => by omega⟩)
  · rw [if_pos hpc]
    obtain ⟨b', hs, hf', hsc⟩ := scanP_all (f := f) hM bg.kinds bg.gates 0 i hi hil hmn
    have hbg := bg.same hs (hf' bg.upto.fit)
    unfold scan2 SqN.scan
    rw [hsc]
    by_cases hl : i + 1 < q.ends.length
    · rw [if_pos hl]
      exact .inr ⟨rfl, xm, n1, n2, hbg, fn, val, jj, .inr (.inl ⟨i + 1, rfl, hpc, hfr, by show f.i + 1 = _; omega, hl, fun _ => rfl⟩)⟩
    · rw [if_neg hl]
      have hfit : fitsP M q.c.cap f.from_ f.n (SqN.lst { b := b', ev := s.ev, least := s.least.set (0 : Int).toNat x } 0) = true := by
        rw [lst_set (by omega), hfr, fn]; exact dif_room hM xm ⟨n1, n2⟩ hc64
      refine .inr ⟨rfl, xm, n1, n2, hbg, fn, val, jj, .inr (.inr ⟨?_, hfr, by omega, rfl⟩)⟩
      show nextQ M q { b := b', ev := s.ev, least := s.least.set (0 : Int).toNat x } 0 { f with min := x, i := 0 } 2 0 = 2
      unfold nextQ fitsQ
      rw [if_pos hfit]
  · rw [if_neg (by omega), if_pos hpc]
    have hsw := swap_set bg.upto.fit.ok bg.kc (bg.at_.trans hfr.symm) 0 (addM M f.from_ f.n)
    unfold swap2
    rw [if_neg (by rw [hsw.1]; decide)]
    refine .inl ⟨rfl, ⟨xm, n1, n2, ?_, by unfold tookQ; simp⟩, hfr⟩
    have h1 := bg.cell hsw.2 (bg.upto.fit.swap 0 q.cell f.from_ (addM_in hM _ _))
    rw [hfr, fn] at h1
    unfold tookQ
    rw [hfr, fn]
    exact h1
/-! variant 3 -/
structure CP3 (M : Int) (q : SqC) (N : Nat) (x n : Int) (j : Nat) (s : SqN) (f : FrS) : Prop where
  xm : InM M x
  n1 : 1 ≤ n
  n2 : n ≤ q.c.cap
  fn : f.n = n
  val : f.val = 0
  jj : f.j = 0
  at_ : (j = 0 ∧ f.pc = 0 ∧ f.from_ = 0 ∧ f.i = 0 ∧ BG M q N 1 x x x 0 s.b) ∨ (∃ i : Nat, j = i + 1 ∧ f.pc = 1 ∧ f.from_ = x ∧ f.i = i ∧ i < q.ends.length ∧ (1 ≤ i → f.min = x) ∧ BG M q N 1 x (addM M x n) x 0 s.b ∧ 1 ≤ s.ev.length)
theorem cp3_step (hc64 : q.c.cap ≤ 64) (hnp : 1 ≤ q.c.producers) (he1 : 1 ≤ q.ends.length) (hlen : (s.least.length : Int) = q.c.producers) {j : Nat} (h : CP3 M q N x n j s f) :
    ((claim3 M q 0 s f).1 = true ∧ TkM M q N 1 x n (claim3 M q 0 s f).2.1 ∧ (claim3 M q 0 s f).2.2.from_ = x) ∨ ((claim3 M q 0 s f).1 = false ∧ CP3 M q N x n (j + 1) (claim3 M q 0 s f).2.1 (claim3 M q 0 s f).2.2) := by
  obtain ⟨xm, n1, n2, fn, val, jj, at_⟩ := h
  have hmay : mayP q 0 f = true := decide_eq_true ⟨Int.le_refl 0, by omega, by omega, by omega⟩
  unfold claim3
  rw [if_neg (by rw [hmay]; decide)]
  rcases at_ with ⟨rfl, hpc, hfr, hi, bg⟩ | ⟨i, rfl, hpc, hfr, hi, hil, hmn, bg, hev⟩
  · rw [if_pos hpc]
    have hM := bg.upto.fit.M2
    have had := add_set bg.upto.fit.ok bg.kc 0 f.n
    have h1 := bg.cell had.2 (bg.upto.fit.add 0 q.cell f.n)
    rw [bg.at_] at had h1
    rw [fn] at h1 had
    unfold begin3
    rw [fn, had.1]
    split
    · refine .inl ⟨rfl, ⟨xm, n1, n2, h1, by unfold tookQ; simp⟩, rfl⟩
    · refine .inr ⟨rfl, xm, n1, n2, rfl, val, jj, .inr ⟨0, rfl, rfl, rfl, rfl, by omega, fun hh => by omega, h1, by simp⟩⟩
  · rw [if_neg (by omega)]
    have hM := bg.upto.fit.M2
    obtain ⟨b', hs, hf', hsc⟩ := scanP_all (f := f) hM bg.kinds bg.gates 0 i hi hil hmn
    have hbg := bg.same hs (hf' bg.upto.fit)
    unfold scan3 SqN.scan
    rw [hsc]
    by_cases hl : i + 1 < q.ends.length
    · rw [if_pos hl]
      exact .inr ⟨rfl, xm, n1, n2, fn, val, jj, .inr ⟨i + 1, rfl, hpc, hfr, by show f.i + 1 = _; omega, hl, fun _ => rfl, hbg, hev⟩⟩
    · rw [if_neg hl]
      have hfit : fitsP M q.c.cap f.from_ f.n (SqN.lst { b := b', ev := s.ev, least := s.least.set (0 : Int).toNat x } 0) = true := by
        rw [lst_set (by omega), hfr, fn]; exact dif_room hM xm ⟨n1, n2⟩ hc64
      simp only [Bool.true_eq_false, if_false]
      unfold fitsQ
      rw [if_neg (show ¬ fitsP M q.c.cap f.from_ f.n (SqN.lst { b := b', ev := s.ev, least := s.least.set (0 : Int).toNat x } 0) = false by rw [hfit]; decide)]
      exact .inl ⟨rfl, ⟨xm, n1, n2, hbg, by simp; omega⟩, hfr⟩
end
/-- the law of a variant with marks, out of that of its claim -/
theorem aloneM {v wd cp np st M : Int} {N c EC : Nat} {A EA : Option Addr} (h : CaseN v wd cp np st M N) (hv : v = 2 ∨ v = 3) (claim : SqN → FrS → Bool × SqN × FrS) (CP : Int → Int → Nat → SqN → FrS → Prop)
    (c0 : ∀ {x n : Int} {s : SqN}, InM M x → 1 ≤ n → n ≤ cp → RestM M (qN v wd cp np st A N c N EA EC) N 1 x s → CP x n 0 s { n := n })
    (c1 : ∀ {x n : Int} {j m : Nat} {s : SqN} {f : FrS}, StN M (qN v wd cp np st A N c N EA EC) m s → CP x n j s f → j < 4 * cp.toNat + N + 8 ∧ FOk M f ∧
      (((claim s f).1 = true ∧ TkM M (qN v wd cp np st A N c N EA EC) N 1 x n (claim s f).2.1 ∧ (claim s f).2.2.from_ = x) ∨ ((claim s f).1 = false ∧ CP x n (j + 1) (claim s f).2.1 (claim s f).2.2)))
    (cs : ∀ {m : Nat} {s : SqN} {f : FrS}, StN M (qN v wd cp np st A N c N EA EC) m s → StN M (qN v wd cp np st A N c N EA EC) (m + 1) (claim s f).2.1) :
    ∃ (Rest : Int → SqN → Prop) (CP PP TP : Int → Int → Nat → SqN → FrS → Prop) (Tk Pd : Int → Int → SqN → Prop) (GP : Int → Nat → SqN → Prop),
      Alone SqN M cp N (4 * cp.toNat + N + 8) (fun s => s.b) (fun s b => { s with b := b }) claim (fun s f => publish2 M (qN v wd cp np st A N c N EA EC) 0 s f) (fun s f => tip2 M np s f) (fun m s => StN M (qN v wd cp np st A N c N EA EC) m s) Rest CP PP TP Tk Pd GP
      ∧ Rest (cutM M st) (sN v wd cp np st M A N c) ∧ StN M (qN v wd cp np st A N c N EA EC) 0 (sN v wd cp np st M A N c) ∧ ∀ y j s, GP y j s → 3 ≤ s.ev.length := by
  have hM := h.M2
  have hb := h.cap.bd
  have h0 : ∀ x : Int, FOk M { val := addM M x 0 } := fun x => ⟨in_0 hM, addM_in hM _ _, ⟨Int.le_refl 0, by show (0 : Int) ≤ 1000000; decide⟩, ⟨Int.le_refl 0, by show (0 : Int) ≤ 1000000; decide⟩⟩
  refine ⟨RestM M (qN v wd cp np st A N c N EA EC) N 1, CP, PP2 M (qN v wd cp np st A N c N EA EC) N, TP2 M (qN v wd cp np st A N c N EA EC) N, TkM M (qN v wd cp np st A N c N EA EC) N 1, PdM M (qN v wd cp np st A N c N EA EC) N 1, GPM M (qN v wd cp np st A N c N EA EC) N 1, ?_, h.rest hv, h.st0, fun y j s hg => hg.2.2⟩
  exact {
    claim0 := c0
    claim1 := c1
    publish0 := fun {x n s} hk => ⟨hk.1, hk.2.1, hk.2.2.1, rfl, by have := hk.2.1; omega, hk.2.2.2.1, by have := hk.2.2.2.2; omega⟩
    publish1 := fun {x n j m s f} hS hp => by
      have hn2 : n ≤ cp := hp.n2
      refine ⟨by have := hp.lt; omega, ?_, pp2_step (show 1 ≤ np from h.pr.1) hS.conf hp⟩
      rw [hp.fr]
      exact ⟨hp.xm, in_0 hM, ⟨by show (0 : Int) ≤ (j : Int); omega, by have := hp.lt; show (j : Int) ≤ 1000000; omega⟩, ⟨Int.le_refl 0, by show (0 : Int) ≤ 1000000; decide⟩⟩
    tip0 := fun {x n s} hk => ⟨hk.1, hk.2.1, hk.2.2.1, by show ({ val := x } : FrS) = { val := addM M x 0 }; rw [addM_zero hk.1], by have := hk.2.1; omega, hk.2.2.2.1, hk.2.2.2.2⟩
    tip1 := fun {x n j m s f} hS hp => by
      have hn2 : n ≤ cp := hp.n2
      refine ⟨by have := hp.le; omega, ?_, tp2_step np hS.conf (fun k hk => (h.ends k).2 ⟨by omega, by omega⟩) hp⟩
      rw [hp.fr]
      exact ⟨in_0 hM, addM_in hM _ _, ⟨Int.le_refl 0, by show (0 : Int) ≤ 1000000; decide⟩, ⟨Int.le_refl 0, by show (0 : Int) ≤ 1000000; decide⟩⟩
    gate1 := fun hS hg hj t => ⟨hg.1.step hj hg.2.1 t, hg.2.1, hg.2.2⟩
    gate2 := fun hg hj => hg.1.done hj
    stClaim := fun hS => cs hS
    stPublish := fun hS _ => hS.publish2 0 _
    stTip := fun hS _ => hS.tip2 np _
    stGate := fun hS hv => hS.gate _ _ hv }
theorem alone2_is {wd cp np st M : Int} {N c EC : Nat} {A EA : Option Addr} (h : CaseN 2 wd cp np st M N) :
    ∃ (Rest : Int → SqN → Prop) (CP PP TP : Int → Int → Nat → SqN → FrS → Prop) (Tk Pd : Int → Int → SqN → Prop) (GP : Int → Nat → SqN → Prop),
      Alone SqN M cp N (4 * cp.toNat + N + 8) (fun s => s.b) (fun s b => { s with b := b }) (fun s f => claim2 M (qN 2 wd cp np st A N c N EA EC) 0 s f) (fun s f => publish2 M (qN 2 wd cp np st A N c N EA EC) 0 s f) (fun s f => tip2 M np s f) (fun m s => StN M (qN 2 wd cp np st A N c N EA EC) m s) Rest CP PP TP Tk Pd GP
      ∧ Rest (cutM M st) (sN 2 wd cp np st M A N c) ∧ StN M (qN 2 wd cp np st A N c N EA EC) 0 (sN 2 wd cp np st M A N c) ∧ ∀ y j s, GP y j s → 3 ≤ s.ev.length := by
  have hM := h.M2
  have hb := h.cap.bd
  have he6 : (qN 2 wd cp np st A N c N EA EC).ends.length ≤ 6 := endsP_len _
  refine aloneM h (.inl rfl) _ (CP2 M (qN 2 wd cp np st A N c N EA EC) N) (fun hx h1 h2 hR => ⟨hx, h1, h2, hR, rfl, rfl, rfl, .inl ⟨rfl, rfl, rfl, rfl⟩⟩) (fun {x n j m s f} hS hc => ⟨?_, ?_, ?_⟩) (fun hS => hS.claim2 0 _)
  · rcases hc.at_ with ⟨rfl, _⟩ | ⟨i, rfl, _, _, _, hl, _⟩ | ⟨_, _, hl, _⟩ <;> omega
  · refine ⟨?_, by rw [hc.val]; exact in_0 hM, ?_, by rw [hc.jj]; exact ⟨Int.le_refl 0, by decide⟩⟩
    · rcases hc.at_ with ⟨_, _, hf, _⟩ | ⟨i, _, _, hf, _⟩ | ⟨_, hf, _⟩ <;> rw [hf]
      · exact in_0 hM
      · exact hc.xm
      · exact hc.xm
    · rcases hc.at_ with ⟨_, _, _, hi⟩ | ⟨i, _, _, _, hi, hl, _⟩ | ⟨_, _, _, hi⟩ <;> omega
  · exact cp2_step (show cp ≤ 64 by omega) h.pr.1 h.ends1 hS.len hc
theorem alone3_is {wd cp np st M : Int} {N c EC : Nat} {A EA : Option Addr} (h : CaseN 3 wd cp np st M N) :
    ∃ (Rest : Int → SqN → Prop) (CP PP TP : Int → Int → Nat → SqN → FrS → Prop) (Tk Pd : Int → Int → SqN → Prop) (GP : Int → Nat → SqN → Prop),
      Alone SqN M cp N (4 * cp.toNat + N + 8) (fun s => s.b) (fun s b => { s with b := b }) (fun s f => claim3 M (qN 3 wd cp np st A N c N EA EC) 0 s f) (fun s f => publish2 M (qN 3 wd cp np st A N c N EA EC) 0 s f) (fun s f => tip2 M np s f) (fun m s => StN M (qN 3 wd cp np st A N c N EA EC) m s) Rest CP PP TP Tk Pd GP
      ∧ Rest (cutM M st) (sN 3 wd cp np st M A N c) ∧ StN M (qN 3 wd cp np st A N c N EA EC) 0 (sN 3 wd cp np st M A N c) ∧ ∀ y j s, GP y j s → 3 ≤ s.ev.length := by
  have hM := h.M2
  have hb := h.cap.bd
  have he6 : (qN 3 wd cp np st A N c N EA EC).ends.length ≤ 6 := endsP_len _
  refine aloneM h (.inr rfl) _ (CP3 M (qN 3 wd cp np st A N c N EA EC) N) (fun hx h1 h2 hR => ⟨hx, h1, h2, rfl, rfl, rfl, .inl ⟨rfl, rfl, rfl, rfl, hR⟩⟩) (fun {x n j m s f} hS hc => ⟨?_, ?_, ?_⟩) (fun hS => hS.claim3 0 _)
  · rcases hc.at_ with ⟨rfl, _⟩ | ⟨i, rfl, _, _, _, hl, _⟩ <;> omega
  · refine ⟨?_, by rw [hc.val]; exact in_0 hM, ?_, by rw [hc.jj]; exact ⟨Int.le_refl 0, by decide⟩⟩
    · rcases hc.at_ with ⟨_, _, hf, _⟩ | ⟨i, _, _, hf, _⟩ <;> rw [hf]
      · exact in_0 hM
      · exact hc.xm
    · rcases hc.at_ with ⟨_, _, _, hi, _⟩ | ⟨i, _, _, _, hi, hl, _⟩ <;> omega
  · exact cp3_step (show cp ≤ 64 by omega) h.pr.1 h.ends1 hS.len hc
theorem its_BLN {tB tW tA tL tE T tS : TypeId} {kd : IntKind} {B0 w w' : World} {γ0 γ : Nat → Nat} {S : Nat → Prop} {p lg g lc : Nat} {b : BS} {ev : List Ev} {cs : Nat → Array Value} {q : SqC} {la : Option Addr} {least : List Int} (h : Its B0 γ0 S [itB tB tW tA kd 1 p b, itL tL tE 2 lg ev] w γ) (hb : Below w.heap.size w w') (hs : ∀ γ id, SeqNAt T tS kd w' (Lab w γ id) id g cs q la lc least) : ∃ γ', Its B0 γ0 S [itB tB tW tA kd 1 p b, itL tL tE 2 lg ev, itSN T tS kd 3 g cs q la lc least] w' γ' :=
  ⟨_, its_add h hb (itSN T tS kd 3 g cs q la lc least) (hs γ 3) (by show (3 : Nat) ≠ 0; decide) (fun x hx => by
    rcases List.mem_cons.1 hx with rfl | hx
    · show (1 : Nat) ≠ 3; decide
    · rw [List.mem_singleton.1 hx]; show (2 : Nat) ≠ 3; decide)⟩
end Go.Proofs.YtnkmlopjinihiaaDoor
