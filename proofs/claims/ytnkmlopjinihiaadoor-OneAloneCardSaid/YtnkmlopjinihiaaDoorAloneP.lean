/- Plain: a thread that is alone: its calls end, and leave the next position. No program, no memory. -/
import Derived.Test.YtnkmlopjinihiaaDoorSeqH
import Derived.Test.YtnkmlopjinihiaaDoorGuard
import Derived.Test.YtnkmlopjinihiaaDoorGroupP
namespace Go.Proofs.YtnkmlopjinihiaaDoor
open Go.RowKit
set_option linter.unusedVariables false
set_option linter.unusedSimpArgs false

/-! Plain: a thread that is alone, on a sequencer of one producer: its calls end, and leave the next position. No program, no memory. -/

/-- between calls: all gates and the next position are x -/
structure Rest1 (q : SqC) (x : Int) (s : Sq1) : Prop where
  kinds : ∀ e ∈ q.ends, s.b.l.kind e = 1
  gates : ∀ e ∈ q.ends, s.b.at_ e = x
  cur : s.b.l.kind q.cell = 1
  next : s.next = x
theorem dif_room {M x n cap : Int} (hM : M = M32 ∨ M = M64) (hx : InM M x) (hn : 1 ≤ n ∧ n ≤ cap) (hc : cap ≤ 64) : fitsP M cap x n x = true := by
  unfold fitsP
  apply decide_eq_true
  rcases hM with rfl | rfl
  · have e : (addM M32 x n - x) % M32 = n := by unfold InM M32 at hx; unfold addM M32; omega
    unfold difM
    rw [e]
    unfold sgM
    rw [if_pos (by unfold M32; omega)]
    exact hn.2
  · have e : (addM M64 x n - x) % M64 = n := by unfold InM M64 at hx; unfold addM M64; omega
    unfold difM
    rw [e]
    unfold sgM
    rw [if_pos (by unfold M64; omega)]
    exact hn.2
theorem dif_self {M x : Int} (hM : M = M32 ∨ M = M64) : ¬ difM M x x < 0 := by
  rcases hM with rfl | rfl <;> simp [difM, sgM, M32, M64]
theorem load_keep (b : BS) (t k : Int) (e : Int) : (b.load t k).2.at_ e = b.at_ e ∧ (b.load t k).2.l = b.l := by
  unfold BS.load; split <;> exact ⟨rfl, rfl⟩
theorem load_is {b : BS} {k : Int} (h : b.l.kind k = 1) (t : Int) : (b.load t k).1 = b.at_ k := by unfold BS.load; rw [if_pos h]
section
variable {M : Int} {q : SqC} {x n : Int} {s : Sq1} {f : FrS}
theorem Rest1.load (h : Rest1 q x s) (t k l : Int) : Rest1 q x { s with b := (s.b.load t k).2, least := l } :=
  ⟨fun e he => by show (s.b.load t k).2.l.kind e = 1; rw [(load_keep s.b t k e).2]; exact h.kinds e he, fun e he => by show (s.b.load t k).2.at_ e = x; rw [(load_keep s.b t k e).1]; exact h.gates e he, by show (s.b.load t k).2.l.kind _ = 1; rw [(load_keep s.b t k 0).2]; exact h.cur, h.next⟩
/-- a claim that goes on: j gates were looked at -/
structure Claims1 (q : SqC) (x n : Int) (j : Nat) (s : Sq1) (f : FrS) : Prop where
  rest : Rest1 q x s
  n_ : f.n = n
  at_ : (j = 0 ∧ f.pc = 0) ∨ (f.pc = 1 ∧ f.i = j ∧ 1 ≤ j ∧ (j : Int) < q.ends.length ∧ f.from_ = x ∧ f.min = x)
/-- what a claim is done with -/
structure Taken1 (q : SqC) (x y : Int) (s : Sq1) (f : FrS) : Prop where
  kinds : ∀ e ∈ q.ends, s.b.l.kind e = 1
  gates : ∀ e ∈ q.ends, s.b.at_ e = x
  cur : s.b.l.kind q.cell = 1
  next : s.next = y
  from_ : f.from_ = x
theorem grant1_taken (h : Rest1 q x s) (t : Int) (hf : f.from_ = x) (hn : f.n = n) : (grant1 M t s f).1 = true ∧ Taken1 q x (addM M x n) (grant1 M t s f).2.1 (grant1 M t s f).2.2 :=
  ⟨rfl, h.kinds, h.gates, h.cur, by show addM M s.next f.n = _; rw [h.next, hn], hf⟩
/-- a step of a scan of gates that are all x -/
theorem scan1_step (hM : M = M32 ∨ M = M64) (hx : InM M x) (hn : 1 ≤ n ∧ n ≤ q.c.cap) (hc : q.c.cap ≤ 64) (he : 1 ≤ q.ends.length) (h : Rest1 q x s) (t : Int) (j : Nat) (hi : f.i = j) (hj : (j : Int) < q.ends.length) (hf : f.from_ = x) (hfn : f.n = n) (hpc : f.pc = 1) (hm : 1 ≤ j → f.min = x) :
    ((scan1 M q t s f).1 = true ∧ Taken1 q x (addM M x n) (scan1 M q t s f).2.1 (scan1 M q t s f).2.2) ∨ ((scan1 M q t s f).1 = false ∧ Claims1 q x n (j + 1) (scan1 M q t s f).2.1 (scan1 M q t s f).2.2) := by
  have hjl : j < q.ends.length := by omega
  have hg := List.getElem?_eq_getElem hjl
  have hmem := List.getElem_mem hjl
  have hgd : q.ends.getD f.i.toNat 0 = q.ends[j] := by rw [hi]; simp [List.getD_eq_getElem?_getD, hg]
  generalize q.ends[j] = e at *
  have hv : (s.b.load t e).1 = x := by rw [load_is (h.kinds e hmem)]; exact h.gates e hmem
  have hmin : minP M f.i (s.b.load t e).1 f.min = x := by
    rw [hv]
    unfold minP
    by_cases h0 : j = 0
    · rw [if_pos (.inl (by omega))]
    · rw [if_neg (by rw [hm (by omega)]; exact fun hh => hh.elim (by omega) (dif_self hM))]; exact hm (by omega)
  have hsc : scanP M s.b t q.ends f = if f.i + 1 < q.ends.length then (false, (s.b.load t e).2, { f with min := x, i := f.i + 1 }) else (true, (s.b.load t e).2, { f with min := x, i := 0 }) := by
    unfold scanP
    rw [if_neg (by omega), hgd, hmin]
  by_cases hl : f.i + 1 < q.ends.length
  · rw [if_pos hl] at hsc
    refine .inr ?_
    unfold scan1
    rw [hsc]
    exact ⟨rfl, h.load t e s.least, hfn, .inr ⟨hpc, by show f.i + 1 = ((j + 1 : Nat) : Int); omega, by omega, by omega, hf, rfl⟩⟩
  · rw [if_neg hl] at hsc
    refine .inl ?_
    have hfit : fitsP M q.c.cap f.from_ f.n x = true := by rw [hf, hfn]; exact dif_room hM hx hn hc
    unfold scan1
    rw [hsc]
    dsimp only
    rw [if_neg (by decide), hfit, if_neg (by decide)]
    exact grant1_taken (h.load t e x) t hf hfn
theorem claim1_step (hM : M = M32 ∨ M = M64) (hx : InM M x) (hn : 1 ≤ n ∧ n ≤ q.c.cap) (hc : q.c.cap ≤ 64) (he : 1 ≤ q.ends.length) (t : Int) (ht : 0 ≤ t ∧ t < q.c.producers) (j : Nat) (h : Claims1 q x n j s f) :
    ((claim1 M q t s f).1 = true ∧ Taken1 q x (addM M x n) (claim1 M q t s f).2.1 (claim1 M q t s f).2.2) ∨ ((claim1 M q t s f).1 = false ∧ Claims1 q x n (j + 1) (claim1 M q t s f).2.1 (claim1 M q t s f).2.2) := by
  have hmay : mayP q t f = true := decide_eq_true ⟨ht.1, ht.2, by rw [h.n_]; exact hn.1, by rw [h.n_]; exact hn.2⟩
  unfold claim1
  rw [hmay, if_neg (by decide)]
  rcases h.at_ with ⟨rfl, hpc⟩ | ⟨hpc, hi, h1, hj, hf, hm⟩
  · rw [if_neg (by omega)]
    split
    · exact .inl (grant1_taken h.rest t (by show s.next = x; exact h.rest.next) h.n_)
    · exact scan1_step hM hx hn hc he h.rest t 0 rfl (by omega) (by show s.next = x; exact h.rest.next) h.n_ rfl (fun h => by omega)
  · rw [if_pos hpc]
    exact scan1_step hM hx hn hc he h.rest t j hi hj hf h.n_ hpc (fun _ => hm)
theorem Claims1.bound {j : Nat} (h : Claims1 q x n j s f) (he : 1 ≤ q.ends.length) : (j : Int) < q.ends.length := by
  rcases h.at_ with ⟨rfl, _⟩ | ⟨_, _, _, hj, _⟩
  · omega
  · exact hj
/-- what is published, and then found -/
theorem Taken1.publish {y : Int} (h : Taken1 q x y s f) (hfit : s.b.Fit M) (hnc : ∀ e ∈ q.ends, e ≠ q.cell) (hn : 1 ≤ n ∧ n ≤ q.c.cap) (t : Int) (ht : 0 ≤ t ∧ t < q.c.producers) (g : FrS) (hg : g.from_ = x) (hgn : g.n = n) :
    (publish1 M q t s g).1 = true ∧ (publish1 M q t s g).2.1.b.at_ q.cell = addM M x n ∧ (∀ e ∈ q.ends, (publish1 M q t s g).2.1.b.l.kind e = 1) ∧ (publish1 M q t s g).2.1.b.l.kind q.cell = 1 ∧ (publish1 M q t s g).2.1.next = y := by
  have hmay : mayP q t g = true := decide_eq_true ⟨ht.1, ht.2, by rw [hgn]; exact hn.1, by rw [hgn]; exact hn.2⟩
  unfold publish1
  rw [hmay, if_neg (by decide)]
  obtain ⟨k, hk, hkl, _⟩ := hfit.ok.cell (.inl h.cur)
  have hl : (s.b.store t q.cell (addM M g.from_ g.n)).l = s.b.l := by unfold BS.store; split <;> rfl
  refine ⟨rfl, ?_, fun e he => by show (s.b.store t q.cell _).l.kind e = 1; rw [hl]; exact h.kinds e he, by show (s.b.store t q.cell _).l.kind _ = 1; rw [hl]; exact h.cur, h.next⟩
  show (s.b.store t q.cell (addM M g.from_ g.n)).at_ q.cell = _
  unfold BS.store
  rw [if_pos h.cur, hg, hgn]
  unfold BS.lay BS.at_
  show (s.b.cells.set q.cell.toNat (addM M x n)).getD q.cell.toNat 0 = _
  rw [hk]
  simp [List.getD_eq_getElem?_getD, hkl]
theorem tip1_val {y : Int} (h : s.b.at_ q.cell = y) (hk : s.b.l.kind q.cell = 1) (t : Int) (g : FrS) : (tip1 q t s g).1 = true ∧ (tip1 q t s g).2.2.val = y := by
  refine ⟨rfl, ?_⟩
  show (s.b.load t q.cell).1 = y
  rw [load_is hk]; exact h
end

/-! Plain: how a thread that is alone begins, and how the gates follow it. No program, no memory. -/

theorem nils_ends {N : Nat} (hN : 1 ≤ N ∧ N ≤ 6) (e : Int) : e ∈ endsP (List.replicate N []) ↔ 0 ≤ e ∧ e < N := by
  have h := endsP_mem (up := List.replicate N []) (by simp; omega) (by intro l hl; rw [(List.mem_replicate.1 hl).2]; simp) e
  rw [h]
  simp only [List.length_replicate]
  constructor
  · intro ⟨h0, h1, _⟩; exact ⟨h0, h1⟩
  · intro ⟨h0, h1⟩; exact ⟨h0, h1, fun l hl => by rw [(List.mem_replicate.1 hl).2]; simp⟩
theorem nils_one {N : Nat} (hN : 1 ≤ N ∧ N ≤ 6) : 1 ≤ (endsP (List.replicate N [])).length := by
  have h := (nils_ends hN 0).2 ⟨by omega, by omega⟩
  exact List.length_pos_of_mem h
section
variable {cp st : Int} {N c : Nat} {A EA : Option Addr} {EC : Nat}
def cfA (cp st : Int) (A : Option Addr) (N c : Nat) : Cf := ⟨1, 64, cp, 1, st, A, N, c⟩
def qA (cp st : Int) (A : Option Addr) (N c : Nat) (EA : Option Addr) (EC : Nat) : SqC := ⟨cfA cp st A N c, endsP (List.replicate N []), N, EA, EC⟩
def sA (cp st : Int) (A : Option Addr) (N c : Nat) : Sq1 := ⟨newBS (mkLay (cfA cp st A N c)), [], cutM M64 st, cutM M64 st⟩
theorem cfA_kind (hc : Cap2 cp) {k : Int} (hk : 0 ≤ k ∧ k ≤ N) : (mkLay (cfA cp st A N c)).kind k = 1 := by
  have hb := hc.bd
  unfold mkLay cfA
  rw [if_pos rfl]
  unfold Lay.kind
  dsimp only
  rw [if_neg (by omega), if_neg (by omega), if_neg (by omega)]
theorem cfA_first (hc : Cap2 cp) {k : Int} (hk : 0 ≤ k ∧ k ≤ N) : (mkLay (cfA cp st A N c)).first k = cutM M64 st := by
  have hb := hc.bd
  unfold mkLay cfA
  rw [if_pos rfl]
  unfold Lay.first
  dsimp only
  rw [if_neg (by omega), if_pos (by omega)]
  unfold startI MW
  rfl
theorem cfA_at (hc : Cap2 cp) (k : Nat) (hk : k ≤ N) : (newBS (mkLay (cfA cp st A N c))).at_ k = cutM M64 st := by
  have hb := hc.bd
  unfold BS.at_
  have h := newBS_at (mkLay (cfA cp st A N c)) k (by unfold mkLay cfA; rw [if_pos rfl]; dsimp only; omega)
  rw [List.getD_eq_getElem?_getD, Int.toNat_natCast, h, cfA_first hc (by omega)]
  rfl
theorem rest_start (hc : Cap2 cp) (hN : 1 ≤ N ∧ N ≤ 6) : Rest1 (qA cp st A N c EA EC) (cutM M64 st) (sA cp st A N c) := by
  refine ⟨fun e he => ?_, fun e he => ?_, ?_, rfl⟩
  · have h := (nils_ends hN e).1 he
    exact cfA_kind hc ⟨h.1, by omega⟩
  · have h := (nils_ends hN e).1 he
    obtain ⟨k, rfl⟩ := Int.eq_ofNat_of_zero_le h.1
    exact cfA_at hc k (by omega)
  · exact cfA_kind hc ⟨by show (0 : Int) ≤ (N : Int); omega, Int.le_refl _⟩
end
/-- the gates follow, one by one: those below j have come -/
structure Part1 (q : SqC) (y : Int) (j : Nat) (s : Sq1) : Prop where
  kinds : ∀ e ∈ q.ends, s.b.l.kind e = 1
  gates : ∀ e ∈ q.ends, e < j → s.b.at_ e = y
  cur : s.b.l.kind q.cell = 1
  next : s.next = y
section
variable {M : Int} {q : SqC} {x y n : Int} {s : Sq1} {f : FrS} {N : Nat}
theorem store_l (b : BS) (t k v : Int) : (b.store t k v).l = b.l := by unfold BS.store; split <;> rfl
theorem store_at {b : BS} {k : Int} (hk : b.l.kind k = 1) (hok : b.Ok M) (t v e : Int) (he : 0 ≤ e) : (b.store t k v).at_ e = if e = k then v else b.at_ e := by
  obtain ⟨m, rfl, hml, _⟩ := hok.cell (.inl hk)
  obtain ⟨i, rfl⟩ := Int.eq_ofNat_of_zero_le he
  unfold BS.store
  rw [if_pos hk]
  show (b.cells.set _ v).getD _ 0 = if _ then v else b.cells.getD _ 0
  simp only [Int.toNat_natCast, List.getD_eq_getElem?_getD]
  by_cases h : i = m
  · subst h; rw [if_pos rfl]; simp [hml]
  · rw [if_neg (by omega), List.getElem?_set_ne (fun h' => h h'.symm)]
theorem Part1.start (hN : 1 ≤ N ∧ N ≤ 6) (hq : q.ends = endsP (List.replicate N [])) (hk : ∀ e ∈ q.ends, s.b.l.kind e = 1) (hc : s.b.l.kind q.cell = 1) (hn : s.next = y) : Part1 q y 0 s :=
  ⟨hk, fun e he hlt => by rw [hq] at he; have := (nils_ends hN e).1 he; omega, hc, hn⟩
theorem Part1.step {j : Nat} (hN : 1 ≤ N ∧ N ≤ 6) (hq : q.ends = endsP (List.replicate N [])) (h : Part1 q y j s) (hok : s.b.Ok M) (hj : j < N) (t : Int) : Part1 q y (j + 1) { s with b := s.b.store t j y } := by
  have hkj : s.b.l.kind j = 1 := h.kinds j (by rw [hq]; exact (nils_ends hN j).2 ⟨by omega, by omega⟩)
  refine ⟨fun e he => by show (s.b.store t j y).l.kind e = 1; rw [store_l]; exact h.kinds e he, fun e he hlt => ?_, by show (s.b.store t j y).l.kind _ = 1; rw [store_l]; exact h.cur, h.next⟩
  have he0 : 0 ≤ e := by have he' := he; rw [hq] at he'; exact ((nils_ends hN e).1 he').1
  show (s.b.store t j y).at_ e = y
  rw [store_at hkj hok t y e he0]
  split
  · rfl
  · exact h.gates e he (by omega)
theorem Part1.done {j : Nat} (hN : 1 ≤ N ∧ N ≤ 6) (hq : q.ends = endsP (List.replicate N [])) (h : Part1 q y j s) (hj : N ≤ j) : Rest1 q y s :=
  ⟨h.kinds, fun e he => h.gates e he (by have he' := he; rw [hq] at he'; have := (nils_ends hN e).1 he'; omega), h.cur, h.next⟩
theorem St1.store {m : Nat} (h : St1 M q m s) (t k : Int) {v : Int} (hv : InM M v) : St1 M q (m + 1) { s with b := s.b.store t k v } := by
  refine ⟨h.fit.store t k hv, h.next, ?_, by have := h.ev; show s.ev.length ≤ _; omega, h.ends⟩
  have := h.log
  show (s.b.store t k v).log.length ≤ _
  unfold BS.store; split
  · simp [BS.lay]; omega
  · omega
/-- the whole of a publish and a tip by one that is alone -/
theorem alone_tip (h : Taken1 q x y s f) (hfit : s.b.Fit M) (hnc : ∀ e ∈ q.ends, e ≠ q.cell) (hy : y = addM M x n) (hn : 1 ≤ n ∧ n ≤ q.c.cap) (t : Int) (ht : 0 ≤ t ∧ t < q.c.producers) (t2 : Int) (g k : FrS) (hg : g.from_ = x) (hgn : g.n = n) :
    (publish1 M q t s g).1 = true ∧ (tip1 q t2 (publish1 M q t s g).2.1 k).1 = true ∧ (tip1 q t2 (publish1 M q t s g).2.1 k).2.2.val = y ∧
    (∀ e ∈ q.ends, (tip1 q t2 (publish1 M q t s g).2.1 k).2.1.b.l.kind e = 1) ∧ (tip1 q t2 (publish1 M q t s g).2.1 k).2.1.b.l.kind q.cell = 1 ∧ (tip1 q t2 (publish1 M q t s g).2.1 k).2.1.next = y := by
  obtain ⟨h1, h2, h3, h4, h5⟩ := h.publish hfit hnc hn t ht g hg hgn
  generalize publish1 M q t s g = r at *
  have hl : (tip1 q t2 r.2.1 k).2.1.b.l = r.2.1.b.l := (load_keep _ _ _ 0).2
  refine ⟨h1, rfl, (tip1_val (h2.trans hy.symm) h4 t2 k).2, fun e he => by rw [hl]; exact h3 e he, by rw [hl]; exact h4, h5⟩
end

/-! Plain: what it is that a thread that is alone is done with each call, over any sequencer's state; a sequencer of one producer is such. No program, no memory. -/

/-- registers in order -/
structure FOk (M : Int) (f : FrS) : Prop where
  from_ : InM M f.from_
  val : InM M f.val
  i : 0 ≤ f.i ∧ f.i ≤ 1000000
  j : 0 ≤ f.j ∧ f.j ≤ 1000000
/-- each call is done within bd steps, and leaves the next position -/
structure Alone (σ : Type) (M cap : Int) (N bd : Nat) (bs : σ → BS) (put : σ → BS → σ) (claim publish tip : σ → FrS → Bool × σ × FrS) (St : Nat → σ → Prop) (Rest : Int → σ → Prop) (CP PP TP : Int → Int → Nat → σ → FrS → Prop) (Tk Pd : Int → Int → σ → Prop) (GP : Int → Nat → σ → Prop) : Prop where
  claim0 : ∀ {x n : Int} {s : σ}, InM M x → 1 ≤ n → n ≤ cap → Rest x s → CP x n 0 s { n := n }
  claim1 : ∀ {x n : Int} {j m : Nat} {s : σ} {f : FrS}, St m s → CP x n j s f → j < bd ∧ FOk M f ∧
    (((claim s f).1 = true ∧ Tk x n (claim s f).2.1 ∧ (claim s f).2.2.from_ = x) ∨ ((claim s f).1 = false ∧ CP x n (j + 1) (claim s f).2.1 (claim s f).2.2))
  publish0 : ∀ {x n : Int} {s : σ}, Tk x n s → PP x n 0 s { n := n, from_ := x }
  publish1 : ∀ {x n : Int} {j m : Nat} {s : σ} {f : FrS}, St m s → PP x n j s f → j < bd ∧ FOk M f ∧
    (((publish s f).1 = true ∧ Pd x n (publish s f).2.1) ∨ ((publish s f).1 = false ∧ PP x n (j + 1) (publish s f).2.1 (publish s f).2.2))
  tip0 : ∀ {x n : Int} {s : σ}, Pd x n s → TP x n 0 s { val := x }
  tip1 : ∀ {x n : Int} {j m : Nat} {s : σ} {f : FrS}, St m s → TP x n j s f → j < bd ∧ FOk M f ∧
    (((tip s f).1 = true ∧ GP (addM M x n) 0 (tip s f).2.1 ∧ (tip s f).2.2.val = addM M x n) ∨ ((tip s f).1 = false ∧ TP x n (j + 1) (tip s f).2.1 (tip s f).2.2))
  gate1 : ∀ {y : Int} {j m : Nat} {s : σ}, St m s → GP y j s → j < N → ∀ t : Int, GP y (j + 1) (put s ((bs s).store t j y))
  gate2 : ∀ {y : Int} {j : Nat} {s : σ}, GP y j s → N ≤ j → Rest y s
  stClaim : ∀ {m : Nat} {s : σ} {f : FrS}, St m s → St (m + 1) (claim s f).2.1
  stPublish : ∀ {m : Nat} {s : σ} {f : FrS}, St m s → FOk M f → St (m + 1) (publish s f).2.1
  stTip : ∀ {m : Nat} {s : σ} {f : FrS}, St m s → FOk M f → St (m + 1) (tip s f).2.1
  stGate : ∀ {m : Nat} {s : σ} {t k v : Int}, St m s → InM M v → St (m + 1) (put s ((bs s).store t k v))
theorem in64_0 : InM M64 0 := by unfold InM M64; decide
theorem FOk.new {n x : Int} (hx : InM M64 x) : FOk M64 { n := n, from_ := x } := ⟨hx, in64_0, ⟨Int.le_refl 0, by show (0 : Int) ≤ 1000000; decide⟩, ⟨Int.le_refl 0, by show (0 : Int) ≤ 1000000; decide⟩⟩
theorem FOk.look {x : Int} (hx : InM M64 x) : FOk M64 { val := x } := ⟨in64_0, hx, ⟨Int.le_refl 0, by show (0 : Int) ≤ 1000000; decide⟩, ⟨Int.le_refl 0, by show (0 : Int) ≤ 1000000; decide⟩⟩
/-- registers of a claim of one producer -/
structure CP1 (M : Int) (q : SqC) (x n : Int) (j : Nat) (s : Sq1) (f : FrS) : Prop where
  xm : InM M x
  n1 : 1 ≤ n
  n2 : n ≤ q.c.cap
  val : f.val = 0
  jj : f.j = 0
  fm : InM M f.from_
  ii : 0 ≤ f.i ∧ f.i ≤ 1000000
  cl : Claims1 q x n j s f
theorem claim1_keep {M : Int} {q : SqC} {t : Int} {s : Sq1} {f : FrS} (he : q.ends.length ≤ 6) (h : f.val = 0 ∧ f.j = 0 ∧ 0 ≤ f.i ∧ f.i ≤ 1000000) : (claim1 M q t s f).2.2.val = 0 ∧ (claim1 M q t s f).2.2.j = 0 ∧ 0 ≤ (claim1 M q t s f).2.2.i ∧ (claim1 M q t s f).2.2.i ≤ 1000000 := by
  have hs : ∀ (s : Sq1) (f : FrS), (f.val = 0 ∧ f.j = 0 ∧ 0 ≤ f.i ∧ f.i ≤ 1000000) → (scan1 M q t s f).2.2.val = 0 ∧ (scan1 M q t s f).2.2.j = 0 ∧ 0 ≤ (scan1 M q t s f).2.2.i ∧ (scan1 M q t s f).2.2.i ≤ 1000000 := fun s f h => by
    have hc : (scanP M s.b t q.ends f).2.2.val = 0 ∧ (scanP M s.b t q.ends f).2.2.j = 0 ∧ 0 ≤ (scanP M s.b t q.ends f).2.2.i ∧ (scanP M s.b t q.ends f).2.2.i ≤ 1000000 := by
      unfold scanP
      split
      · exact ⟨h.1, h.2.1, Int.le_refl 0, by show (0 : Int) ≤ 1000000; decide⟩
      · split
        · exact ⟨h.1, h.2.1, by show 0 ≤ f.i + 1; omega, by show f.i + 1 ≤ 1000000; omega⟩
        · exact ⟨h.1, h.2.1, Int.le_refl 0, by show (0 : Int) ≤ 1000000; decide⟩
    unfold scan1
    dsimp only
    split
    · exact hc
    · split
      · exact hc
      · exact hc
  unfold claim1
  split
  · exact h
  · split
    · exact hs s f h
    · split
      · exact h
      · exact hs s _ ⟨h.1, h.2.1, Int.le_refl 0, by show (0 : Int) ≤ 1000000; decide⟩
section
variable {cp st : Int} {N c : Nat} {A EA : Option Addr} {EC : Nat}
/-- what is kept between a claim and its publishing, and between that and the look -/
def Tk1 (q : SqC) (x n : Int) (s : Sq1) : Prop := InM M64 x ∧ 1 ≤ n ∧ n ≤ q.c.cap ∧ ∃ f0, Taken1 q x (addM M64 x n) s f0
def Pd1 (q : SqC) (x n : Int) (s : Sq1) : Prop := InM M64 x ∧ s.b.at_ q.cell = addM M64 x n ∧ (∀ e ∈ q.ends, s.b.l.kind e = 1) ∧ s.b.l.kind q.cell = 1 ∧ s.next = addM M64 x n
def PP1 (q : SqC) (x n : Int) (j : Nat) (s : Sq1) (f : FrS) : Prop := j = 0 ∧ f = { n := n, from_ := x } ∧ Tk1 q x n s
def TP1 (q : SqC) (x n : Int) (j : Nat) (s : Sq1) (f : FrS) : Prop := j = 0 ∧ f = { val := x } ∧ Pd1 q x n s
/-- a sequencer of one producer -/
theorem alone1 (hc : Cap2 cp) (hN : 1 ≤ N ∧ N ≤ 6) :
    Alone Sq1 M64 cp N (4 * cp.toNat + N + 8) (fun s => s.b) (fun s b => { s with b := b }) (fun s f => claim1 M64 (qA cp st A N c EA EC) 0 s f) (fun s f => publish1 M64 (qA cp st A N c EA EC) 0 s f) (fun s f => tip1 (qA cp st A N c EA EC) 1 s f) (fun m s => St1 M64 (qA cp st A N c EA EC) m s)
      (Rest1 (qA cp st A N c EA EC)) (CP1 M64 (qA cp st A N c EA EC)) (PP1 (qA cp st A N c EA EC)) (TP1 (qA cp st A N c EA EC)) (Tk1 (qA cp st A N c EA EC)) (Pd1 (qA cp st A N c EA EC)) (Part1 (qA cp st A N c EA EC)) where
  claim0 := fun hx h1 h2 hR => ⟨hx, h1, h2, rfl, rfl, in64_0, ⟨Int.le_refl 0, by show (0 : Int) ≤ 1000000; decide⟩, ⟨hR, rfl, .inl ⟨rfl, rfl⟩⟩⟩
  claim1 := fun {x n j m s f} hS h => by
    have hb := hc.bd
    have he : 1 ≤ (qA cp st A N c EA EC).ends.length := nils_one hN
    have hj := h.cl.bound he
    have hl6 : (qA cp st A N c EA EC).ends.length ≤ 6 := endsP_len _
    refine ⟨by omega, ⟨h.fm, by rw [h.val]; exact in64_0, h.ii, by rw [h.jj]; exact ⟨Int.le_refl 0, by decide⟩⟩, ?_⟩
    have hk := claim1_keep (M := M64) (t := 0) (s := s) hl6 ⟨h.val, h.jj, h.ii⟩
    rcases claim1_step (M := M64) (t := 0) (.inr rfl) h.xm ⟨h.n1, h.n2⟩ (show cp ≤ 64 by omega) he ⟨Int.le_refl 0, show (0 : Int) < 1 by decide⟩ j h.cl with ⟨hd, hT⟩ | ⟨hd, hC⟩
    · exact .inl ⟨hd, ⟨h.xm, h.n1, h.n2, _, hT⟩, hT.from_⟩
    · exact .inr ⟨hd, h.xm, h.n1, h.n2, hk.1, hk.2.1, claim1_from hS 0 h.fm, hk.2.2, hC⟩
  publish0 := fun h => ⟨rfl, rfl, h⟩
  publish1 := fun {x n j m s f} hS h => by
    obtain ⟨rfl, rfl, hx, h1, h2, f0, hT⟩ := h
    have hb := hc.bd
    refine ⟨by omega, FOk.new hx, .inl ?_⟩
    have hP := hT.publish (n := n) hS.fit (fun e he => by have h := (nils_ends hN e).1 he; show e ≠ (N : Int); omega) ⟨h1, h2⟩ 0 ⟨Int.le_refl 0, show (0 : Int) < 1 by decide⟩ ({ n := n, from_ := x } : FrS) rfl rfl
    exact ⟨hP.1, hx, hP.2.1, hP.2.2.1, hP.2.2.2.1, hP.2.2.2.2⟩
  tip0 := fun h => ⟨rfl, rfl, h⟩
  tip1 := fun {x n j m s f} hS h => by
    obtain ⟨rfl, rfl, hx, h1, h2, h3, h4⟩ := h
    have hb := hc.bd
    have ht := tip1_val h1 h3 1 ({ val := x } : FrS)
    refine ⟨by omega, FOk.look hx, .inl ⟨rfl, ?_, ht.2⟩⟩
    have hl : (tip1 (qA cp st A N c EA EC) 1 s ({ val := x } : FrS)).2.1.b.l = s.b.l := (load_keep _ _ _ 0).2
    exact Part1.start hN rfl (fun e he => by rw [hl]; exact h2 e he) (by rw [hl]; exact h3) h4
  gate1 := fun hS h hj t => h.step hN rfl hS.fit.ok hj t
  gate2 := fun h hj => h.done hN rfl hj
  stClaim := fun hS => hS.claim 0 _
  stPublish := fun hS _ => hS.publish 0 _
  stTip := fun hS _ => hS.tip 1 _
  stGate := fun hS hv => hS.store _ _ hv
end
end Go.Proofs.YtnkmlopjinihiaaDoor
