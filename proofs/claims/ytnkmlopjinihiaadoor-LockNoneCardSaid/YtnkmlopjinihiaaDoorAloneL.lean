/- Plain: a thread that is alone, on a sequencer behind a lock. No program, no memory. -/
import Derived.Test.YtnkmlopjinihiaaDoorAloneN
namespace Go.Proofs.YtnkmlopjinihiaaDoor
open Go.RowKit
set_option linter.unusedVariables false
set_option linter.unusedSimpArgs false

section
variable {M : Int} {b b' : BS} {tk sv : Int}
theorem LockB.same (h : LockB M b tk sv) (hs : SameB b b') (ho : b'.Ok M) : LockB M b' tk sv :=
  ⟨ho, by rw [hs.1]; exact h.variant, by rw [hs.1]; exact h.kt, by rw [hs.1]; exact h.ks, by rw [hs.1]; exact h.ne, by rw [hs.1, hs.2]; exact h.tk, by rw [hs.1, hs.2]; exact h.sv⟩
theorem LockB.pos (h : LockB M b tk sv) : 0 ≤ b.l.ticket ∧ 0 ≤ b.l.serving := by
  obtain ⟨n, hn, _⟩ := h.ok.cell (.inl h.kt)
  obtain ⟨m, hm, _⟩ := h.ok.cell (.inl h.ks)
  omega
theorem LockB.other (h : LockB M b tk sv) {i v : Int} (hs : SetB b b' i v) (ho : b'.Ok M) (h1 : i ≠ b.l.ticket) (h2 : i ≠ b.l.serving) : LockB M b' tk sv := by
  have hp := h.pos
  refine ⟨ho, by rw [hs.1]; exact h.variant, by rw [hs.1]; exact h.kt, by rw [hs.1]; exact h.ks, by rw [hs.1]; exact h.ne, ?_, ?_⟩
  · rw [hs.1, hs.2 _ hp.1, if_neg (fun e => h1 e.symm)]; exact h.tk
  · rw [hs.1, hs.2 _ hp.2, if_neg (fun e => h2 e.symm)]; exact h.sv
theorem LockB.nei (h : LockB M b tk sv) : b.l.ticket ≠ b.l.serving := fun e => h.ne (by rw [e])
theorem LockB.setT (h : LockB M b tk sv) {v : Int} (hs : SetB b b' b.l.ticket v) (ho : b'.Ok M) : LockB M b' v sv := by
  have hp := h.pos
  have hn := h.nei
  refine ⟨ho, by rw [hs.1]; exact h.variant, by rw [hs.1]; exact h.kt, by rw [hs.1]; exact h.ks, by rw [hs.1]; exact h.ne, ?_, ?_⟩
  · rw [hs.1, hs.2 _ hp.1, if_pos rfl]
  · rw [hs.1, hs.2 _ hp.2, if_neg (fun e => hn e.symm)]; exact h.sv
theorem LockB.setS (h : LockB M b tk sv) {v : Int} (hs : SetB b b' b.l.serving v) (ho : b'.Ok M) : LockB M b' tk v := by
  have hp := h.pos
  have hn := h.nei
  refine ⟨ho, by rw [hs.1]; exact h.variant, by rw [hs.1]; exact h.kt, by rw [hs.1]; exact h.ks, by rw [hs.1]; exact h.ne, ?_, ?_⟩
  · rw [hs.1, hs.2 _ hp.1, if_neg hn]; exact h.tk
  · rw [hs.1, hs.2 _ hp.2, if_pos rfl]
end
/-- where the lock's cells stand -/
structure LC (q : SqC) (N : Nat) (b : BS) : Prop where
  t : b.l.ticket = N
  s : b.l.serving = N + 1
  c : q.cell = N + 2
  m : b.l.marks = N + 3
theorem LC.l {q : SqC} {N : Nat} {b b' : BS} (h : LC q N b) (hl : b'.l = b.l) : LC q N b' := ⟨by rw [hl]; exact h.t, by rw [hl]; exact h.s, h.c, by rw [hl]; exact h.m⟩
/-- a board behind a lock -/
structure LG (M : Int) (q : SqC) (N : Nat) (x y p : Int) (n : Nat) (tk sv : Int) (b : BS) : Prop where
  bg : BG M q N 2 x y p n b
  lk : LockB M b tk sv
  lc : LC q N b
  ti : InM M tk
section
variable {M : Int} {q : SqC} {N : Nat} {x y p tk sv : Int} {n : Nat} {b b' : BS}
theorem LG.same (h : LG M q N x y p n tk sv b) (hs : SameB b b') (hf : b'.Fit M) : LG M q N x y p n tk sv b' := ⟨h.bg.same hs hf, h.lk.same hs hf.ok, h.lc.l hs.1, h.ti⟩
theorem LG.cell {v : Int} (h : LG M q N x y p n tk sv b) (hs : SetB b b' q.cell v) (hf : b'.Fit M) : LG M q N x v p n tk sv b' := by
  have h1 := h.lc.t; have h2 := h.lc.s; have h3 := h.lc.c
  exact ⟨h.bg.cell hs hf, h.lk.other hs hf.ok (by omega) (by omega), h.lc.l hs.1, h.ti⟩
theorem LG.take (h : LG M q N x y p n tk sv b) (t : Int) {pc : Int} (hp : pc = 0) (own : Int) : LG M q N x y p n (addM M tk 1) sv (enterP M b t pc own).2.1 ∧ (enterP M b t pc own).1 = false ∧ (enterP M b t pc own).2.2 = (1, tk) := by
  subst hp
  have h1 := h.lc.t; have h2 := h.lc.s; have h3 := h.lc.c; have h4 := h.lc.m
  have hf := h.bg.upto.fit
  have ha := add_set hf.ok h.lk.kt t 1
  rw [h.lk.tk] at ha
  have hf' := hf.add t b.l.ticket 1
  unfold enterP
  rw [if_neg (fun hn => hn h.lk.variant), if_pos rfl]
  exact ⟨⟨h.bg.other ha.2 hf' (by omega) (by omega), h.lk.setT ha.2 hf'.ok, h.lc.l ha.2.1, addM_in hf.M2 _ _⟩, rfl, by rw [ha.1]⟩
theorem LG.come (h : LG M q N x y p n tk sv b) (t : Int) {pc : Int} (hp : pc ≠ 0) : LG M q N x y p n tk sv (enterP M b t pc sv).2.1 ∧ (enterP M b t pc sv).2.2 = (2, sv) := by
  have hf := h.bg.upto.fit
  have hs := load_same b t b.l.serving
  have hv : (b.load t b.l.serving).1 = sv := by rw [load_is h.lk.ks]; exact h.lk.sv
  unfold enterP
  rw [if_neg (fun hn => hn h.lk.variant), if_neg hp, if_pos hv]
  exact ⟨h.same hs (hf.load _ _), rfl⟩
theorem LG.leave (h : LG M q N x y p n tk sv b) (t : Int) : LG M q N x y p n tk (addM M sv 1) (leaveP M b t) := by
  have h1 := h.lc.t; have h2 := h.lc.s; have h3 := h.lc.c; have h4 := h.lc.m
  have hf := h.bg.upto.fit
  have ha := add_set hf.ok h.lk.ks t 1
  rw [h.lk.sv] at ha
  have hf' := hf.add t b.l.serving 1
  unfold leaveP
  rw [if_pos h.lk.variant]
  exact ⟨h.bg.other ha.2 hf' (by omega) (by omega), h.lk.setS ha.2 hf'.ok, h.lc.l ha.2.1, h.ti⟩
end
/-! a run keeps the board in order -/
theorem enterP_st {M : Int} {b : BS} (h : b.Fit M) (t pc own : Int) : (enterP M b t pc own).2.1.Fit M ∧ (enterP M b t pc own).2.1.l = b.l ∧ (enterP M b t pc own).2.1.log.length ≤ b.log.length + 1 := by
  unfold enterP
  split
  · exact ⟨h, rfl, Nat.le_succ _⟩
  · split
    · exact ⟨h.add t _ 1, add_l _ _ _ _ _, add_log _ _ _ _ _⟩
    · split
      · exact ⟨h.load t _, BS.load_l _ _ _, BS.load_log _ _ _⟩
      · exact ⟨h.load t _, BS.load_l _ _ _, BS.load_log _ _ _⟩
theorem leaveP_st {M : Int} {b : BS} (h : b.Fit M) (t : Int) : (leaveP M b t).Fit M ∧ (leaveP M b t).l = b.l ∧ (leaveP M b t).log.length ≤ b.log.length + 1 := by
  unfold leaveP
  split
  · exact ⟨h.add t _ 1, add_l _ _ _ _ _, add_log _ _ _ _ _⟩
  · exact ⟨h, rfl, Nat.le_succ _⟩
section
variable {M : Int} {q : SqC} {n : Nat} {s : SqN} {f : FrS}
theorem StN.enter5 (h : StN M q n s) (t : Int) (f : FrS) : StN M q (n + 1) (enter5 M t s f).2.1 := by
  have hp := enterP_st h.fit t f.pc f.own
  exact h.brd hp.1 hp.2.1 hp.2.2
theorem StN.leave5 (h : StN M q n s) (t : Int) (f : FrS) : StN M q (n + 1) (leave5 M t s f).2.1 := by
  have hp := leaveP_st h.fit t
  exact h.brd hp.1 hp.2.1 hp.2.2
theorem StN.claim5 (h : StN M q n s) (t : Int) (f : FrS) : StN M q (n + 1) (claim5 M q t s f).2.1 := by
  unfold Go.Proofs.YtnkmlopjinihiaaDoor.claim5
  split
  · exact h.mono (by omega)
  · split
    · exact h.brd (h.fit.read t q.cell) (read_l _ _ _) (read_log _ _ _)
    · split
      · unfold scan5; split <;> exact h.scan t f
      · split
        · have h1 := h.brd (h.fit.write t q.cell (addM_in h.fit.M2 f.from_ f.n)) (write_l _ _ _ _) (write_log _ _ _ _)
          have h2 := h1.evs (l := [takeEv t f] ++ [grantEv t]) h.ev (by simp)
          unfold write5 tookQ
          rw [List.append_assoc]
          exact h2
        · split
          · exact h.leave5 t f
          · exact h.enter5 t f
theorem StN.publish5 (h : StN M q n s) (t : Int) (f : FrS) : StN M q (n + 1) (publish5 M q t s f).2.1 := by
  unfold Go.Proofs.YtnkmlopjinihiaaDoor.publish5
  have hp := publishP_st h.fit t f
  split
  · exact h.mono (by omega)
  · split
    · exact h.leave5 t f
    · split
      · exact (h.brd hp.1 hp.2.1 hp.2.2).evs (l := [putEv t 1 (addM M f.from_ f.i)]) h.ev (by simp)
      · exact h.enter5 t f
theorem StN.tip5 (h : StN M q n s) (t : Int) (f : FrS) : StN M q (n + 1) (tip5 M t s f).2.1 := by
  unfold Go.Proofs.YtnkmlopjinihiaaDoor.tip5
  have hp := seekP_st h.fit t f
  split
  · exact h.leave5 t f
  · split
    · exact h.brd hp.1 hp.2.1 hp.2.2
    · exact h.enter5 t f
end
section
variable {M : Int} {q : SqC} {N : Nat} {x n : Int} {s : SqN} {f : FrS}
def Rest5 (M : Int) (q : SqC) (N : Nat) (x : Int) (s : SqN) : Prop := ∃ tk, LG M q N x x x 0 tk tk s.b
def Tk5 (M : Int) (q : SqC) (N : Nat) (x n : Int) (s : SqN) : Prop := InM M x ∧ 1 ≤ n ∧ n ≤ q.c.cap ∧ (∃ tk, LG M q N x (addM M x n) x 0 tk tk s.b) ∧ 2 ≤ s.ev.length
def Pd5 (M : Int) (q : SqC) (N : Nat) (x n : Int) (s : SqN) : Prop := InM M x ∧ 1 ≤ n ∧ n ≤ q.c.cap ∧ (∃ tk, LG M q N x (addM M x n) x n.toNat tk tk s.b) ∧ 3 ≤ s.ev.length
def GP5 (M : Int) (q : SqC) (N : Nat) (y : Int) (j : Nat) (s : SqN) : Prop := BP M q N 2 y j s.b ∧ (∃ tk, LockB M s.b tk tk ∧ InM M tk) ∧ LC q N s.b ∧ InM M y ∧ 3 ≤ s.ev.length
/-- a claim that goes on -/
structure CP5 (M : Int) (q : SqC) (N : Nat) (x n : Int) (j : Nat) (s : SqN) (f : FrS) : Prop where
  xm : InM M x
  n1 : 1 ≤ n
  n2 : n ≤ q.c.cap
  fn : f.n = n
  val : f.val = 0
  jj : f.j = 0
  at_ : (j = 0 ∧ f.pc = 0 ∧ f.from_ = 0 ∧ f.i = 0 ∧ ∃ tk, LG M q N x x x 0 tk tk s.b)
    ∨ (j = 1 ∧ f.pc = 1 ∧ f.from_ = 0 ∧ f.i = 0 ∧ ∃ tk, LG M q N x x x 0 (addM M tk 1) tk s.b ∧ f.own = tk)
    ∨ (j = 2 ∧ f.pc = 2 ∧ f.from_ = 0 ∧ f.i = 0 ∧ ∃ tk, LG M q N x x x 0 (addM M tk 1) tk s.b)
    ∨ (∃ i : Nat, j = i + 3 ∧ f.pc = 3 ∧ f.from_ = x ∧ f.i = i ∧ i < q.ends.length ∧ (1 ≤ i → f.min = x) ∧ ∃ tk, LG M q N x x x 0 (addM M tk 1) tk s.b)
    ∨ (j ≤ q.ends.length + 3 ∧ f.pc = 4 ∧ f.from_ = x ∧ f.i = 0 ∧ ∃ tk, LG M q N x x x 0 (addM M tk 1) tk s.b)
    ∨ (j ≤ q.ends.length + 4 ∧ f.pc = 6 ∧ f.from_ = x ∧ f.i = 0 ∧ (∃ tk, LG M q N x (addM M x n) x 0 (addM M tk 1) tk s.b) ∧ 2 ≤ s.ev.length)
theorem cp5_step (hc64 : q.c.cap ≤ 64) (hnp : 1 ≤ q.c.producers) (he1 : 1 ≤ q.ends.length) (hlen : (s.least.length : Int) = q.c.producers) {j : Nat} (h : CP5 M q N x n j s f) :
    ((claim5 M q 0 s f).1 = true ∧ Tk5 M q N x n (claim5 M q 0 s f).2.1 ∧ (claim5 M q 0 s f).2.2.from_ = x) ∨ ((claim5 M q 0 s f).1 = false ∧ CP5 M q N x n (j + 1) (claim5 M q 0 s f).2.1 (claim5 M q 0 s f).2.2) := by
  obtain ⟨xm, n1, n2, fn, val, jj, at_⟩ := h
  have hmay : mayP q 0 f = true := decide_eq_true ⟨Int.le_refl 0, by omega, by omega, by omega⟩
  unfold claim5
  rw [if_neg (by rw [hmay]; decide)]
  rcases at_ with ⟨rfl, hpc, hfr, hi, tk, hg⟩ | ⟨rfl, hpc, hfr, hi, tk, hg, ho⟩ | ⟨rfl, hpc, hfr, hi, tk, hg⟩ | ⟨i, rfl, hpc, hfr, hi, hil, hmn, tk, hg⟩ | ⟨hjl, hpc, hfr, hi, tk, hg⟩ | ⟨hjl, hpc, hfr, hi, ⟨tk, hg⟩, hev⟩
  · rw [if_neg (by omega), if_neg (by omega), if_neg (by omega), if_neg (by omega)]
    obtain ⟨h1, h2, h3⟩ := hg.take 0 hpc f.own
    refine .inr ⟨rfl, xm, n1, n2, fn, val, jj, .inr (.inl ⟨rfl, ?_, hfr, hi, tk, h1, ?_⟩)⟩
    · show (enterP M s.b 0 f.pc f.own).2.2.1 = 1; rw [h3]
    · show (enterP M s.b 0 f.pc f.own).2.2.2 = tk; rw [h3]
  · rw [if_neg (by omega), if_neg (by omega), if_neg (by omega), if_neg (by omega)]
    obtain ⟨h1, h3⟩ := hg.come 0 (pc := f.pc) (by omega)
    rw [← ho] at h1 h3
    refine .inr ⟨rfl, xm, n1, n2, fn, val, jj, .inr (.inr (.inl ⟨rfl, ?_, hfr, hi, f.own, ?_⟩))⟩
    · show (enterP M s.b 0 f.pc f.own).2.2.1 = 2; rw [h3]
    · exact h1
  · rw [if_pos hpc]
    have hv : (s.b.read 0 q.cell).1 = x := by rw [read_is hg.bg.kc]; exact hg.bg.at_
    have hg' := hg.same (read_same s.b 0 q.cell) (hg.bg.upto.fit.read _ _)
    unfold read5
    rw [hv]
    unfold nextQ
    split
    · exact .inr ⟨rfl, xm, n1, n2, fn, val, jj, .inr (.inr (.inr (.inr (.inl ⟨by omega, rfl, rfl, rfl, tk, hg'⟩))))⟩
    · exact .inr ⟨rfl, xm, n1, n2, fn, val, jj, .inr (.inr (.inr (.inl ⟨0, rfl, rfl, rfl, rfl, by omega, fun hh => by omega, tk, hg'⟩)))⟩
  · rw [if_neg (by omega), if_pos hpc]
    have hM := hg.bg.upto.fit.M2
    obtain ⟨b', hs, hf', hsc⟩ := scanP_all (f := f) hM hg.bg.kinds hg.bg.gates 0 i hi hil hmn
    have hg' := hg.same hs (hf' hg.bg.upto.fit)
    unfold scan5 SqN.scan
    rw [hsc]
    by_cases hl : i + 1 < q.ends.length
    · rw [if_pos hl]
      exact .inr ⟨rfl, xm, n1, n2, fn, val, jj, .inr (.inr (.inr (.inl ⟨i + 1, rfl, hpc, hfr, by show f.i + 1 = _; omega, hl, fun _ => rfl, tk, hg'⟩)))⟩
    · rw [if_neg hl]
      have hfit : fitsP M q.c.cap f.from_ f.n (SqN.lst { b := b', ev := s.ev, least := s.least.set (0 : Int).toNat x } 0) = true := by
        rw [lst_set (by omega), hfr, fn]; exact dif_room hM xm ⟨n1, n2⟩ hc64
      refine .inr ⟨rfl, xm, n1, n2, fn, val, jj, .inr (.inr (.inr (.inr (.inl ⟨by omega, ?_, hfr, rfl, tk, hg'⟩))))⟩
      show nextQ M q { b := b', ev := s.ev, least := s.least.set (0 : Int).toNat x } 0 { f with min := x, i := 0 } 4 5 = 4
      unfold nextQ fitsQ
      rw [if_pos hfit]
  · rw [if_neg (by omega), if_neg (by omega), if_pos hpc]
    have hM := hg.bg.upto.fit.M2
    have hs := write_set hg.bg.upto.fit.ok hg.bg.kc 0 (addM M f.from_ f.n)
    have hg' := hg.cell hs (hg.bg.upto.fit.write 0 q.cell (addM_in hM _ _))
    rw [hfr, fn] at hg'
    refine .inr ⟨rfl, xm, n1, n2, fn, val, jj, .inr (.inr (.inr (.inr (.inr ⟨by omega, rfl, hfr, hi, ⟨tk, ?_⟩, by unfold write5 tookQ; simp⟩))))⟩
    unfold write5 tookQ
    rw [hfr, fn]
    exact hg'
  · rw [if_neg (by omega), if_neg (by omega), if_neg (by omega), if_pos (.inr hpc)]
    refine .inl ⟨decide_eq_true hpc, ⟨xm, n1, n2, ⟨_, hg.leave 0⟩, hev⟩, hfr⟩
/-- publishing -/
structure PP5 (M : Int) (q : SqC) (N : Nat) (x n : Int) (j : Nat) (s : SqN) (f : FrS) : Prop where
  xm : InM M x
  n1 : 1 ≤ n
  n2 : n ≤ q.c.cap
  fn : f.n = n
  fr : f.from_ = x
  val : f.val = 0
  jj : f.j = 0
  at_ : (j = 0 ∧ f.pc = 0 ∧ f.i = 0 ∧ (∃ tk, LG M q N x (addM M x n) x 0 tk tk s.b) ∧ 2 ≤ s.ev.length)
    ∨ (j = 1 ∧ f.pc = 1 ∧ f.i = 0 ∧ (∃ tk, LG M q N x (addM M x n) x 0 (addM M tk 1) tk s.b ∧ f.own = tk) ∧ 2 ≤ s.ev.length)
    ∨ (∃ i : Nat, j = i + 2 ∧ f.pc = 2 ∧ f.i = i ∧ (i : Int) < n ∧ (∃ tk, LG M q N x (addM M x n) x i (addM M tk 1) tk s.b) ∧ 2 + i ≤ s.ev.length)
    ∨ (j = n.toNat + 2 ∧ f.pc = 6 ∧ f.i = 0 ∧ (∃ tk, LG M q N x (addM M x n) x n.toNat (addM M tk 1) tk s.b) ∧ 3 ≤ s.ev.length)
theorem LG.lay {M : Int} {q : SqC} {N : Nat} {x y p tk sv : Int} {n : Nat} {b : BS} (h : LG M q N x y p n tk sv b) {b' : BS} (hb : BG M q N 2 x y p (n + 1) b') (hs : ∃ pos, SetB b b' (b.mcell pos) (b.mround pos)) : LG M q N x y p (n + 1) tk sv b' := by
  obtain ⟨pos, hs⟩ := hs
  have hm := h.bg.upto.fit.marks h.bg.upto.has pos
  have hsl := slotI_bd (x := pos) h.bg.upto.fit.cap
  have h1 := h.lc.t; have h2 := h.lc.s; have h4 := h.lc.m
  exact ⟨hb, h.lk.other hs hb.upto.fit.ok (by omega) (by omega), h.lc.l hs.1, h.ti⟩
theorem publishP_set {M : Int} {b : BS} (h : b.Fit M) (hm : b.hasM = true) (t : Int) (f : FrS) (hin : f.inside) : ∃ pos, SetB b (publishP M b t f).2.1 (b.mcell pos) (b.mround pos) := by
  refine ⟨addM M f.from_ f.i, ?_⟩
  have hs := mlay_setB h hm t (addM M f.from_ f.i)
  unfold publishP
  rw [if_neg (by simp [hm]), if_pos hin]
  split <;> exact hs
theorem pp5_step (hnp : 1 ≤ q.c.producers) {j : Nat} (hcf : s.b.l.c = q.c) (h : PP5 M q N x n j s f) :
    ((publish5 M q 0 s f).1 = true ∧ Pd5 M q N x n (publish5 M q 0 s f).2.1) ∨ ((publish5 M q 0 s f).1 = false ∧ PP5 M q N x n (j + 1) (publish5 M q 0 s f).2.1 (publish5 M q 0 s f).2.2) := by
  obtain ⟨xm, n1, n2, fn, fr, val, jj, at_⟩ := h
  have hmay : mayP q 0 f = true := decide_eq_true ⟨Int.le_refl 0, by omega, by omega, by omega⟩
  unfold publish5
  rw [if_neg (by rw [hmay]; decide)]
  rcases at_ with ⟨rfl, hpc, hi, ⟨tk, hg⟩, hev⟩ | ⟨rfl, hpc, hi, ⟨tk, hg, ho⟩, hev⟩ | ⟨i, rfl, hpc, hi, hin, ⟨tk, hg⟩, hev⟩ | ⟨rfl, hpc, hi, ⟨tk, hg⟩, hev⟩
  · rw [if_neg (by omega), if_neg (by omega)]
    obtain ⟨h1, h2, h3⟩ := hg.take 0 hpc f.own
    refine .inr ⟨rfl, xm, n1, n2, fn, fr, val, jj, .inr (.inl ⟨rfl, ?_, hi, ⟨tk, h1, ?_⟩, hev⟩)⟩
    · show (enterP M s.b 0 f.pc f.own).2.2.1 = 1; rw [h3]
    · show (enterP M s.b 0 f.pc f.own).2.2.2 = tk; rw [h3]
  · rw [if_neg (by omega), if_neg (by omega)]
    obtain ⟨h1, h3⟩ := hg.come 0 (pc := f.pc) (by omega)
    rw [← ho] at h1 h3
    refine .inr ⟨rfl, xm, n1, n2, fn, fr, val, jj, .inr (.inr (.inl ⟨0, rfl, ?_, hi, by omega, ⟨f.own, h1⟩, hev⟩))⟩
    show (enterP M s.b 0 f.pc f.own).2.2.1 = 2; rw [h3]
  · rw [if_neg (by omega), if_pos hpc]
    obtain ⟨h1, h2, h3⟩ := mark_step (s := s) hg.bg hcf xm 0 fr hi (by omega) (by omega)
    have hl := hg.lay h1 (publishP_set hg.bg.upto.fit hg.bg.upto.has 0 f ⟨by omega, by omega⟩)
    dsimp only
    rw [h2, h3]
    by_cases hlt : f.i + 1 < f.n
    · rw [if_pos hlt, if_neg (by simp [hlt])]
      exact .inr ⟨rfl, xm, n1, n2, fn, fr, val, jj, .inr (.inr (.inl ⟨i + 1, rfl, hpc, by show f.i + 1 = _; omega, by omega, ⟨tk, hl⟩, by simp; omega⟩))⟩
    · rw [if_neg hlt, if_pos (by simp [hlt])]
      have hn : n.toNat = i + 1 := by omega
      exact .inr ⟨rfl, xm, n1, n2, fn, fr, val, jj, .inr (.inr (.inr ⟨by omega, rfl, rfl, ⟨tk, by rw [hn]; exact hl⟩, by simp; omega⟩))⟩
  · rw [if_pos hpc]
    exact .inl ⟨decide_eq_true hpc, xm, n1, n2, ⟨_, hg.leave 0⟩, hev⟩
/-- a look -/
structure TP5 (M : Int) (q : SqC) (N : Nat) (x n : Int) (j : Nat) (s : SqN) (f : FrS) : Prop where
  xm : InM M x
  n1 : 1 ≤ n
  n2 : n ≤ q.c.cap
  fr : f.from_ = 0
  ii : f.i = 0
  jj : f.j = 0
  ev : 3 ≤ s.ev.length
  at_ : (j = 0 ∧ f.pc = 0 ∧ f.val = x ∧ (∃ tk, LG M q N x (addM M x n) x n.toNat tk tk s.b))
    ∨ (j = 1 ∧ f.pc = 1 ∧ f.val = x ∧ (∃ tk, LG M q N x (addM M x n) x n.toNat (addM M tk 1) tk s.b ∧ f.own = tk))
    ∨ (∃ i : Nat, j = i + 2 ∧ f.pc = 2 ∧ f.val = addM M x i ∧ i ≤ n.toNat ∧ (∃ tk, LG M q N x (addM M x n) x n.toNat (addM M tk 1) tk s.b))
    ∨ (j = n.toNat + 3 ∧ f.pc = 6 ∧ f.val = addM M x n ∧ (∃ tk, LG M q N x (addM M x n) x n.toNat (addM M tk 1) tk s.b))
theorem seekP_same {M : Int} {b : BS} (h : b.Fit M) (t : Int) (f : FrS) : SameB b (seekP M b t f).2.1 := by
  by_cases hm : b.hasM = true
  · have hs := (mlook_is h hm t f.val).2
    unfold seekP
    rw [if_neg (by simp [hm])]
    split <;> exact hs
  · unfold seekP
    rw [if_pos (by simpa using hm)]
    exact SameB.refl b
theorem tp5_step {j : Nat} (t : Int) (hcf : s.b.l.c = q.c) (ha : ∀ k : Nat, k < N → (k : Int) ∈ q.ends) (h : TP5 M q N x n j s f) :
    ((tip5 M t s f).1 = true ∧ GP5 M q N (addM M x n) 0 (tip5 M t s f).2.1 ∧ (tip5 M t s f).2.2.val = addM M x n) ∨ ((tip5 M t s f).1 = false ∧ TP5 M q N x n (j + 1) (tip5 M t s f).2.1 (tip5 M t s f).2.2) := by
  obtain ⟨xm, n1, n2, fr, ii, jj, ev, at_⟩ := h
  unfold tip5
  rcases at_ with ⟨rfl, hpc, hv, tk, hg⟩ | ⟨rfl, hpc, hv, tk, hg, ho⟩ | ⟨i, rfl, hpc, hv, hin, tk, hg⟩ | ⟨rfl, hpc, hv, tk, hg⟩
  · rw [if_neg (by omega), if_neg (by omega)]
    obtain ⟨h1, h2, h3⟩ := hg.take t hpc f.own
    refine .inr ⟨rfl, xm, n1, n2, fr, ii, jj, ev, .inr (.inl ⟨rfl, ?_, hv, tk, h1, ?_⟩)⟩
    · show (enterP M s.b t f.pc f.own).2.2.1 = 1; rw [h3]
    · show (enterP M s.b t f.pc f.own).2.2.2 = tk; rw [h3]
  · rw [if_neg (by omega), if_neg (by omega)]
    obtain ⟨h1, h3⟩ := hg.come t (pc := f.pc) (by omega)
    rw [← ho] at h1 h3
    refine .inr ⟨rfl, xm, n1, n2, fr, ii, jj, ev, .inr (.inr (.inl ⟨0, rfl, ?_, ?_, by omega, f.own, h1⟩))⟩
    · show (enterP M s.b t f.pc f.own).2.2.1 = 2; rw [h3]
    · show f.val = addM M x (0 : Nat); rw [hv]; exact (addM_zero xm).symm
  · rw [if_neg (by omega), if_pos hpc]
    obtain ⟨h1, h2, h3⟩ := seek_step (s := s) hg.bg hcf (by omega) t i hin hv
    have hg' := hg.same (seekP_same hg.bg.upto.fit t f) h1.upto.fit
    dsimp only
    rw [h2, h3]
    by_cases hlt : i < n.toNat
    · rw [if_pos hlt, if_neg (by simp [hlt])]
      exact .inr ⟨rfl, xm, n1, n2, fr, ii, jj, ev, .inr (.inr (.inl ⟨i + 1, rfl, hpc, rfl, by omega, tk, hg'⟩))⟩
    · rw [if_neg hlt, if_pos (by simp [hlt])]
      have hni : (i : Int) = n := by omega
      exact .inr ⟨rfl, xm, n1, n2, fr, ii, jj, ev, .inr (.inr (.inr ⟨by omega, rfl, by show f.val = _; rw [hv, hni], tk, hg'⟩))⟩
  · rw [if_pos hpc]
    have hl := hg.leave t
    have hM := hg.bg.upto.fit.M2
    refine .inl ⟨decide_eq_true hpc, ⟨?_, ⟨_, hl.lk, hl.ti⟩, hl.lc, addM_in hM _ _, ev⟩, hv⟩
    have h4 := hl.bg.shift (by have hc : (leaveP M s.b t).l.c = q.c := by rw [(leaveP_st hg.bg.upto.fit t).2.1]; exact hcf
                               rw [hc]; omega)
    rw [show ((n.toNat : Nat) : Int) = n by omega] at h4
    exact BP.start h4 ha
end
section
variable {v wd cp np st M : Int} {N c EC : Nat} {A EA : Option Addr}
theorem CaseN.restL (h : CaseN 5 wd cp np st M N) : LG M (qN 5 wd cp np st A N c ((N : Int) + 2) EA EC) N (cutM M st) (cutM M st) (cutM M st) 0 0 0 (newBS (mkLay (cfN 5 wd cp np st A N c))) := by
  have hb := h.cap.bd
  have hl : (newBS (mkLay (cfN 5 wd cp np st A N c))).l = mkLay (cfN 5 wd cp np st A N c) := rfl
  have hlay := h.layL (A := A) (c := c) rfl
  have hat : ∀ k : Int, 0 ≤ k → k < (N : Int) ∨ k = (N : Int) + 2 → (newBS (mkLay (cfN 5 wd cp np st A N c))).at_ k = cutM M st := by
    intro k h0 hk
    have h1 := newBS_at (mkLay (cfN 5 wd cp np st A N c)) k.toNat (by rw [hlay]; dsimp only; omega)
    unfold BS.at_
    rw [List.getD_eq_getElem?_getD, h1]
    show (mkLay (cfN 5 wd cp np st A N c)).first ((k.toNat : Nat) : Int) = _
    rw [hlay]
    unfold Lay.first
    dsimp only
    rw [if_neg (by omega), if_pos (by omega)]
    show startI (cfN 5 wd cp np st A N c) = _
    unfold startI
    rw [h.m]
    rfl
  refine ⟨⟨fun e he => ?_, fun e he => (h.ends e).1 he, fun e he => ?_, ?_, ?_, ?_, ?_⟩, ?_, ?_, in_0 h.M2⟩
  · have h1 := (h.ends e).1 he
    rw [hl, hlay]
    unfold Lay.kind
    dsimp only
    rw [if_neg (by omega), if_neg (by omega), if_neg (by omega)]
  · have h1 := (h.ends e).1 he
    exact hat e h1.1 (.inl h1.2)
  · rw [hl, hlay]
    exact ⟨by show (N : Int) ≤ (N : Int) + 2; omega, by show (N : Int) + 2 < N + 3; omega⟩
  · rw [hl, hlay]
    show Lay.kind _ ((N : Int) + 2) = 2
    unfold Lay.kind
    dsimp only
    rw [if_neg (by omega), if_neg (by omega), if_pos (by omega)]
  · exact hat ((N : Int) + 2) (by omega) (.inr rfl)
  · have hu := Upto.new (c := cfN 5 wd cp np st A N c) h.fit (h.has (by decide)) (by show (5 : Int) ≠ 4; decide)
    have hs : startI (cfN 5 wd cp np st A N c) = cutM M st := by unfold startI; rw [h.m]; rfl
    rw [hs] at hu
    exact hu
  · have hk := newBS_lock (cfN 5 wd cp np st A N c) rfl h.n h.cap
    rw [h.m]; exact hk
  · rw [show LC (qN 5 wd cp np st A N c ((N : Int) + 2) EA EC) N (newBS (mkLay (cfN 5 wd cp np st A N c))) ↔ LC (qN 5 wd cp np st A N c ((N : Int) + 2) EA EC) N (newBS (mkLay (cfN 5 wd cp np st A N c))) from Iff.rfl]
    exact ⟨by rw [hl, hlay], by rw [hl, hlay], rfl, by rw [hl, hlay]⟩
theorem alone5_is (h : CaseN 5 wd cp np st M N) :
    ∃ (Rest : Int → SqN → Prop) (CP PP TP : Int → Int → Nat → SqN → FrS → Prop) (Tk Pd : Int → Int → SqN → Prop) (GP : Int → Nat → SqN → Prop),
      Alone SqN M cp N (4 * cp.toNat + N + 8) (fun s => s.b) (fun s b => { s with b := b }) (fun s f => claim5 M (qN 5 wd cp np st A N c ((N : Int) + 2) EA EC) 0 s f) (fun s f => publish5 M (qN 5 wd cp np st A N c ((N : Int) + 2) EA EC) 0 s f) (fun s f => tip5 M np s f) (fun m s => StN M (qN 5 wd cp np st A N c ((N : Int) + 2) EA EC) m s) Rest CP PP TP Tk Pd GP
      ∧ Rest (cutM M st) (sN 5 wd cp np st M A N c) ∧ StN M (qN 5 wd cp np st A N c ((N : Int) + 2) EA EC) 0 (sN 5 wd cp np st M A N c) ∧ ∀ y j s, GP y j s → 3 ≤ s.ev.length := by
  have hM := h.M2
  have hb := h.cap.bd
  have h16 := h.c16
  have hN1 := h.n
  have z1 : (0 : Int) ≤ 0 ∧ (0 : Int) ≤ 1000000 := ⟨Int.le_refl 0, by decide⟩
  have he6 : (qN 5 wd cp np st A N c ((N : Int) + 2) EA EC).ends.length ≤ 6 := endsP_len _
  refine ⟨Rest5 M (qN 5 wd cp np st A N c ((N : Int) + 2) EA EC) N, CP5 M (qN 5 wd cp np st A N c ((N : Int) + 2) EA EC) N, PP5 M (qN 5 wd cp np st A N c ((N : Int) + 2) EA EC) N, TP5 M (qN 5 wd cp np st A N c ((N : Int) + 2) EA EC) N, Tk5 M (qN 5 wd cp np st A N c ((N : Int) + 2) EA EC) N, Pd5 M (qN 5 wd cp np st A N c ((N : Int) + 2) EA EC) N, GP5 M (qN 5 wd cp np st A N c ((N : Int) + 2) EA EC) N, ?_, ⟨_, h.restL⟩, h.st0, fun y j s hg => hg.2.2.2.2⟩
  exact {
    claim0 := fun hx h1 h2 ⟨tk, hR⟩ => ⟨hx, h1, h2, rfl, rfl, rfl, .inl ⟨rfl, rfl, rfl, rfl, tk, hR⟩⟩
    claim1 := fun {x n j m s f} hS hc => by
      refine ⟨?_, ⟨?_, by rw [hc.val]; exact in_0 hM, ?_, by rw [hc.jj]; exact z1⟩, cp5_step (show cp ≤ 64 by omega) h.pr.1 h.ends1 hS.len hc⟩
      · rcases hc.at_ with ⟨rfl, _⟩ | ⟨rfl, _⟩ | ⟨rfl, _⟩ | ⟨i, rfl, _, _, _, hl, _⟩ | ⟨hl, _⟩ | ⟨hl, _⟩ <;> omega
      · rcases hc.at_ with ⟨_, _, hf, _⟩ | ⟨_, _, hf, _⟩ | ⟨_, _, hf, _⟩ | ⟨i, _, _, hf, _⟩ | ⟨_, _, hf, _⟩ | ⟨_, _, hf, _⟩ <;> rw [hf] <;> first | exact hc.xm | exact in_0 hM
      · rcases hc.at_ with ⟨_, _, _, hi, _⟩ | ⟨_, _, _, hi, _⟩ | ⟨_, _, _, hi, _⟩ | ⟨i, _, _, _, hi, hl, _⟩ | ⟨_, _, _, hi, _⟩ | ⟨_, _, _, hi, _⟩ <;> omega
    publish0 := fun {x n s} hk => ⟨hk.1, hk.2.1, hk.2.2.1, rfl, rfl, rfl, rfl, .inl ⟨rfl, rfl, rfl, hk.2.2.2.1, hk.2.2.2.2⟩⟩
    publish1 := fun {x n j m s f} hS hp => by
      have hn2 : n ≤ cp := hp.n2
      have hn1 := hp.n1
      refine ⟨?_, ⟨by rw [hp.fr]; exact hp.xm, by rw [hp.val]; exact in_0 hM, ?_, by rw [hp.jj]; exact z1⟩, pp5_step (show 1 ≤ np from h.pr.1) hS.conf hp⟩
      · rcases hp.at_ with ⟨rfl, _⟩ | ⟨rfl, _⟩ | ⟨i, rfl, _, _, hl, _⟩ | ⟨rfl, _⟩ <;> omega
      · rcases hp.at_ with ⟨_, _, hi, _⟩ | ⟨_, _, hi, _⟩ | ⟨i, _, _, hi, hl, _⟩ | ⟨_, _, hi, _⟩ <;> omega
    tip0 := fun {x n s} hk => ⟨hk.1, hk.2.1, hk.2.2.1, rfl, rfl, rfl, hk.2.2.2.2, .inl ⟨rfl, rfl, rfl, hk.2.2.2.1⟩⟩
    tip1 := fun {x n j m s f} hS hp => by
      have hn2 : n ≤ cp := hp.n2
      have hn1 := hp.n1
      refine ⟨?_, ⟨by rw [hp.fr]; exact in_0 hM, ?_, by rw [hp.ii]; exact z1, by rw [hp.jj]; exact z1⟩, tp5_step np hS.conf (fun k hk => (h.ends k).2 ⟨by omega, by omega⟩) hp⟩
      · rcases hp.at_ with ⟨rfl, _⟩ | ⟨rfl, _⟩ | ⟨i, rfl, _, _, hl, _⟩ | ⟨rfl, _⟩ <;> omega
      · rcases hp.at_ with ⟨_, _, hv, _⟩ | ⟨_, _, hv, _⟩ | ⟨i, _, _, hv, _⟩ | ⟨_, _, hv, _⟩ <;> rw [hv] <;> first | exact hp.xm | exact addM_in hM _ _
    gate1 := fun {y j m s} hS hg hj t => by
      obtain ⟨hp, ⟨tk, hk, ht⟩, hc, hy, hev⟩ := hg
      have hkj := hp.kinds j (hp.all j hj)
      have hs := store_set hp.upto.fit.ok hkj t y
      have hf := hp.upto.fit.store t j hy
      have h1 := hc.t; have h2 := hc.s
      exact ⟨hp.step hj hy t, ⟨tk, hk.other hs hf.ok (by omega) (by omega), ht⟩, hc.l hs.1, hy, hev⟩
    gate2 := fun {y j s} hg hj => by
      obtain ⟨hp, ⟨tk, hk, ht⟩, hc, hy, hev⟩ := hg
      exact ⟨tk, hp.done hj, hk, hc, ht⟩
    stClaim := fun hS => hS.claim5 0 _
    stPublish := fun hS _ => hS.publish5 0 _
    stTip := fun hS _ => hS.tip5 np _
    stGate := fun hS hv => hS.gate _ _ hv }
end
end Go.Proofs.YtnkmlopjinihiaaDoor
