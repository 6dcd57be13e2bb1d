/- Plain: the state of a sequencer of several producers beside its board: what happened, and the least gate that each producer knows; what a step of each call does, for the variants 2 to 5. Where it lies in memory. No program is walked. -/
import Derived.Test.YtnkmlopjinihiaaDoorSeqP
import Derived.Test.YtnkmlopjinihiaaDoorTurn
namespace Go.Proofs.YtnkmlopjinihiaaDoor
open Go.RowKit
set_option linter.unusedVariables false
set_option linter.unusedSimpArgs false

structure SqN where
  b : BS
  ev : List Ev
  least : List Int
def SqN.lst (s : SqN) (t : Int) : Int := s.least.getD t.toNat 0
def SqN.know (s : SqN) (t x : Int) : SqN := { s with least := s.least.set t.toNat x }
/-- a step of a scan, and what the thread knows behind it -/
def SqN.scan (s : SqN) (M : Int) (q : SqC) (t : Int) (f : FrS) : Bool × SqN × FrS :=
  if (scanP M s.b t q.ends f).1 = false then (false, { s with b := (scanP M s.b t q.ends f).2.1 }, (scanP M s.b t q.ends f).2.2)
  else (true, { s with b := (scanP M s.b t q.ends f).2.1, least := s.least.set t.toNat (scanP M s.b t q.ends f).2.2.min }, (scanP M s.b t q.ends f).2.2)
def fitsQ (M : Int) (q : SqC) (s : SqN) (t : Int) (f : FrS) : Bool := fitsP M q.c.cap f.from_ f.n (s.lst t)
def nextQ (M : Int) (q : SqC) (s : SqN) (t : Int) (f : FrS) (yes other : Int) : Int := if fitsQ M q s t f then yes else other
def tookQ (t : Int) (s : SqN) (f : FrS) : SqN := { s with ev := s.ev ++ [takeEv t f] ++ [grantEv t] }
/-! variant 2: a swap -/
def begin2 (M : Int) (q : SqC) (t : Int) (s : SqN) (f : FrS) : Bool × SqN × FrS :=
  (false, { s with b := (s.b.load t q.cell).2 }, { f with from_ := (s.b.load t q.cell).1, i := 0, pc := nextQ M q s t { f with from_ := (s.b.load t q.cell).1 } 2 1 })
def scan2 (M : Int) (q : SqC) (t : Int) (s : SqN) (f : FrS) : Bool × SqN × FrS :=
  if (s.scan M q t f).1 = false then (false, (s.scan M q t f).2.1, (s.scan M q t f).2.2)
  else (false, (s.scan M q t f).2.1, { (s.scan M q t f).2.2 with pc := nextQ M q (s.scan M q t f).2.1 t (s.scan M q t f).2.2 2 0 })
def swap2 (M : Int) (q : SqC) (t : Int) (s : SqN) (f : FrS) : Bool × SqN × FrS :=
  if (s.b.swap t q.cell f.from_ (addM M f.from_ f.n)).1 = false then (false, { s with b := (s.b.swap t q.cell f.from_ (addM M f.from_ f.n)).2 }, { f with pc := 0 })
  else (true, tookQ t { s with b := (s.b.swap t q.cell f.from_ (addM M f.from_ f.n)).2 } f, { f with pc := 0 })
def claim2 (M : Int) (q : SqC) (t : Int) (s : SqN) (f : FrS) : Bool × SqN × FrS :=
  if mayP q t f = false then (true, s, f)
  else if f.pc = 1 then scan2 M q t s f
  else if f.pc = 2 then swap2 M q t s f
  else begin2 M q t s f
/-- slots are marked one by one -/
def publish2 (M : Int) (q : SqC) (t : Int) (s : SqN) (f : FrS) : Bool × SqN × FrS :=
  if mayP q t f = false then (true, s, f)
  else ((publishP M s.b t f).1, { s with b := (publishP M s.b t f).2.1, ev := s.ev ++ [putEv t 1 (addM M f.from_ f.i)] }, (publishP M s.b t f).2.2)
def tip2 (M : Int) (t : Int) (s : SqN) (f : FrS) : Bool × SqN × FrS :=
  ((seekP M s.b t f).1, { s with b := (seekP M s.b t f).2.1 }, (seekP M s.b t f).2.2)
/-! variant 3: an addition -/
def begin3 (M : Int) (q : SqC) (t : Int) (s : SqN) (f : FrS) : Bool × SqN × FrS :=
  if fitsQ M q s t { f with from_ := (s.b.add M t q.cell f.n).1 } then (true, tookQ t { s with b := (s.b.add M t q.cell f.n).2 } { f with from_ := (s.b.add M t q.cell f.n).1 }, { f with from_ := (s.b.add M t q.cell f.n).1, pc := 0 })
  else (false, { s with b := (s.b.add M t q.cell f.n).2, ev := s.ev ++ [takeEv t { f with from_ := (s.b.add M t q.cell f.n).1 }] }, { f with from_ := (s.b.add M t q.cell f.n).1, pc := 1, i := 0 })
def scan3 (M : Int) (q : SqC) (t : Int) (s : SqN) (f : FrS) : Bool × SqN × FrS :=
  if (s.scan M q t f).1 = false then (false, (s.scan M q t f).2.1, (s.scan M q t f).2.2)
  else if fitsQ M q (s.scan M q t f).2.1 t (s.scan M q t f).2.2 = false then (false, (s.scan M q t f).2.1, (s.scan M q t f).2.2)
  else (true, { (s.scan M q t f).2.1 with ev := (s.scan M q t f).2.1.ev ++ [grantEv t] }, { (s.scan M q t f).2.2 with pc := 0 })
def claim3 (M : Int) (q : SqC) (t : Int) (s : SqN) (f : FrS) : Bool × SqN × FrS :=
  if mayP q t f = false then (true, s, f)
  else if f.pc = 0 then begin3 M q t s f
  else scan3 M q t s f
/-! variant 4: stamps -/
def stampC (q : SqC) (pos : Int) : Int := (mkLay q.c).mark (slotI q.c.cap pos)
def pos4 (M : Int) (f : FrS) : Int := addM M f.from_ f.j
def used4 (M : Int) (q : SqC) (f : FrS) : Int := addM M (pos4 M f) (1 - q.c.cap)
def passed4 (M : Int) (q : SqC) (s : SqN) (t : Int) (f : FrS) : Bool := decide (0 < difM M (s.lst t) (addM M (pos4 M f) (-q.c.cap)))
def free4 (M : Int) (q : SqC) (s : SqN) (t : Int) (f : FrS) (other : Int) : Int := if passed4 M q s t f then 3 else other
def begin4 (M : Int) (q : SqC) (t : Int) (s : SqN) (f : FrS) : Bool × SqN × FrS :=
  (false, { s with b := (s.b.load t (mkLay q.c).claim).2 }, { f with from_ := (s.b.load t (mkLay q.c).claim).1, j := 0, pc := 1 })
def look4 (M : Int) (q : SqC) (t : Int) (s : SqN) (f : FrS) : SqN × FrS :=
  if (s.b.load t (stampC q (pos4 M f))).1 = pos4 M f then
    ({ s with b := (s.b.load t (stampC q (pos4 M f))).2 }, { f with j := f.j + 1, pc := if f.j + 1 = f.n then 4 else 1 })
  else if (s.b.load t (stampC q (pos4 M f))).1 = used4 M q f then
    ({ s with b := (s.b.load t (stampC q (pos4 M f))).2 }, { f with i := 0, pc := free4 M q s t f 2 })
  else ({ s with b := (s.b.load t (stampC q (pos4 M f))).2 }, { f with pc := 0 })
def scan4 (M : Int) (q : SqC) (t : Int) (s : SqN) (f : FrS) : Bool × SqN × FrS :=
  if (s.scan M q t f).1 = false then (false, (s.scan M q t f).2.1, (s.scan M q t f).2.2)
  else (false, (s.scan M q t f).2.1, { (s.scan M q t f).2.2 with pc := free4 M q (s.scan M q t f).2.1 t (s.scan M q t f).2.2 0 })
def freed4 (M : Int) (q : SqC) (t : Int) (s : SqN) (f : FrS) : Bool × SqN × FrS :=
  (false, { s with b := (s.b.swap t (stampC q (pos4 M f)) (used4 M q f) (pos4 M f)).2 }, { f with pc := 1 })
def swap4 (M : Int) (q : SqC) (t : Int) (s : SqN) (f : FrS) : Bool × SqN × FrS :=
  if (s.b.swap t (mkLay q.c).claim f.from_ (addM M f.from_ f.n)).1 = false then (false, { s with b := (s.b.swap t (mkLay q.c).claim f.from_ (addM M f.from_ f.n)).2 }, { f with pc := 0 })
  else (true, tookQ t { s with b := (s.b.swap t (mkLay q.c).claim f.from_ (addM M f.from_ f.n)).2 } f, { f with pc := 0 })
def claim4 (M : Int) (q : SqC) (t : Int) (s : SqN) (f : FrS) : Bool × SqN × FrS :=
  if mayP q t f = false then (true, s, f)
  else if f.pc = 1 then (false, (look4 M q t s f).1, (look4 M q t s f).2)
  else if f.pc = 2 then scan4 M q t s f
  else if f.pc = 3 then freed4 M q t s f
  else if f.pc = 4 then swap4 M q t s f
  else begin4 M q t s f
def publish4 (M : Int) (q : SqC) (t : Int) (s : SqN) (f : FrS) : Bool × SqN × FrS :=
  if mayP q t f = false then (true, s, f)
  else if f.i + 1 < f.n then (false, { s with b := s.b.store t (stampC q (addM M f.from_ f.i)) (addM M (addM M f.from_ f.i) 1), ev := s.ev ++ [putEv t 1 (addM M f.from_ f.i)] }, { f with i := f.i + 1 })
  else (true, { s with b := s.b.store t (stampC q (addM M f.from_ f.i)) (addM M (addM M f.from_ f.i) 1), ev := s.ev ++ [putEv t 1 (addM M f.from_ f.i)] }, { f with i := 0 })
def tip4 (M : Int) (q : SqC) (t : Int) (s : SqN) (f : FrS) : Bool × SqN × FrS :=
  if (s.b.load t (stampC q f.val)).1 = addM M f.val 1 then (false, { s with b := (s.b.load t (stampC q f.val)).2 }, { f with val := addM M f.val 1 })
  else (true, { s with b := (s.b.load t (stampC q f.val)).2 }, f)
/-! variant 5: a lock -/
def enter5 (M : Int) (t : Int) (s : SqN) (f : FrS) : Bool × SqN × FrS :=
  (false, { s with b := (enterP M s.b t f.pc f.own).2.1 }, { f with pc := (enterP M s.b t f.pc f.own).2.2.1, own := (enterP M s.b t f.pc f.own).2.2.2 })
def leave5 (M : Int) (t : Int) (s : SqN) (f : FrS) : Bool × SqN × FrS :=
  (decide (f.pc = 6), { s with b := leaveP M s.b t }, { f with pc := 0 })
def read5 (M : Int) (q : SqC) (t : Int) (s : SqN) (f : FrS) : Bool × SqN × FrS :=
  (false, { s with b := (s.b.read t q.cell).2 }, { f with from_ := (s.b.read t q.cell).1, i := 0, pc := nextQ M q s t { f with from_ := (s.b.read t q.cell).1 } 4 3 })
def scan5 (M : Int) (q : SqC) (t : Int) (s : SqN) (f : FrS) : Bool × SqN × FrS :=
  if (s.scan M q t f).1 = false then (false, (s.scan M q t f).2.1, (s.scan M q t f).2.2)
  else (false, (s.scan M q t f).2.1, { (s.scan M q t f).2.2 with pc := nextQ M q (s.scan M q t f).2.1 t (s.scan M q t f).2.2 4 5 })
def write5 (M : Int) (q : SqC) (t : Int) (s : SqN) (f : FrS) : Bool × SqN × FrS :=
  (false, tookQ t { s with b := s.b.write t q.cell (addM M f.from_ f.n) } f, { f with pc := 6 })
def claim5 (M : Int) (q : SqC) (t : Int) (s : SqN) (f : FrS) : Bool × SqN × FrS :=
  if mayP q t f = false then (true, s, f)
  else if f.pc = 2 then read5 M q t s f
  else if f.pc = 3 then scan5 M q t s f
  else if f.pc = 4 then write5 M q t s f
  else if f.pc = 5 ∨ f.pc = 6 then leave5 M t s f
  else enter5 M t s f
def publish5 (M : Int) (q : SqC) (t : Int) (s : SqN) (f : FrS) : Bool × SqN × FrS :=
  if mayP q t f = false then (true, s, f)
  else if f.pc = 6 then leave5 M t s f
  else if f.pc = 2 then (false, { s with b := (publishP M s.b t f).2.1, ev := s.ev ++ [putEv t 1 (addM M f.from_ f.i)] }, if (publishP M s.b t f).1 then { (publishP M s.b t f).2.2 with pc := 6 } else (publishP M s.b t f).2.2)
  else enter5 M t s f
def tip5 (M : Int) (t : Int) (s : SqN) (f : FrS) : Bool × SqN × FrS :=
  if f.pc = 6 then leave5 M t s f
  else if f.pc = 2 then (false, { s with b := (seekP M s.b t f).2.1 }, if (seekP M s.b t f).1 then { (seekP M s.b t f).2.2 with pc := 6 } else (seekP M s.b t f).2.2)
  else enter5 M t s f

/-! in memory -/
def csN (p lg : Nat) (q : SqC) (la : Option Addr) (n lc : Nat) : Array Value := #[.pointer (some ⟨p, 0, none⟩), .pointer (some ⟨lg, 0, none⟩), .int .i64 q.c.variant, .int .i64 q.c.width, .int .i64 q.c.cap, .int .i64 q.c.producers, .int .u64 q.c.start, .slice q.c.ua q.c.un q.c.uc, .slice q.ea q.ends.length q.ec, .int .i64 q.cell, .slice la n lc]
/-- a sequencer with its layout (stamps) -/
def csX (p lg : Nat) (q : SqC) (la : Option Addr) (n lc : Nat) : Array Value := #[.pointer (some ⟨p, 0, none⟩), .pointer (some ⟨lg, 0, none⟩), .int .i64 q.c.variant, .int .i64 q.c.width, .int .i64 q.c.cap, .int .i64 q.c.producers, .int .u64 q.c.start, .slice q.c.ua q.c.un q.c.uc, .int .i64 (mkLay q.c).cursor, .int .i64 (mkLay q.c).claim, .int .i64 (mkLay q.c).ticket, .int .i64 (mkLay q.c).serving, .int .i64 (mkLay q.c).next, .int .i64 (mkLay q.c).marks, .int .i64 (mkLay q.c).slots, .int .i64 (mkLay q.c).cells, .slice q.ea q.ends.length q.ec, .slice la n lc]
def SeqNAt (T tW : TypeId) (kd : IntKind) (w : World) (γ : Nat → Nat) (id g : Nat) (cs : Nat → Array Value) (q : SqC) (la : Option Addr) (lc : Nat) (least : List Int) : Prop :=
  Blk w g T (cs least.length) ∧ γ g = id ∧ RowAt w γ id 3 1 (.slice q.ea q.ends.length q.ec) q.ends.length (q.ends.map (Value.int .i64)) ∧ RowAt w γ id tW 1 (.slice la least.length lc) least.length (least.map (Value.int kd))
theorem SeqNAt.keptI {T tW : TypeId} {kd : IntKind} {id g lc : Nat} {cs : Nat → Array Value} {q : SqC} {la : Option Addr} {least : List Int} {w w' : World} {γ γ' : Nat → Nat} (h : SeqNAt T tW kd w γ id g cs q la lc least) (hk : Kept id w w' γ γ') : SeqNAt T tW kd w' γ' id g cs q la lc least := by
  obtain ⟨h1, h2, h3, h4⟩ := h
  have hb := h1.keptI h2 hk
  exact ⟨hb.1, hb.2, h3.keptI hk, h4.keptI hk⟩
def itSN (T tW : TypeId) (kd : IntKind) (id g : Nat) (cs : Nat → Array Value) (q : SqC) (la : Option Addr) (lc : Nat) (least : List Int) : It := ⟨id, fun w γ => SeqNAt T tW kd w γ id g cs q la lc least, fun h hk => h.keptI hk⟩
section
variable {T tW : TypeId} {kd : IntKind} {id g lc lb : Nat} {cs : Nat → Array Value} {q : SqC} {la : Option Addr} {least : List Int} {w w0 : World} {γ γ0 : Nat → Nat} {S : Nat → Prop} {a b : It} {R : List It}
theorem SeqNAt.row (h : SeqNAt T tW kd w γ id g cs q la lc least) {k : Nat} (hk : k < least.length) :
    ∃ lb, la = some ⟨lb, 0, none⟩ ∧ lb < w.heap.size ∧ w.cell? ⟨lb, k, none⟩ = some (.int kd (least.getD k 0)) ∧ w.frozen? ⟨lb, k, none⟩ = false := by
  obtain ⟨lb, cap, he, hl, hc, hf⟩ := row_at h.2.2.2.1 hk
  cases he
  exact ⟨lb, rfl, hl, hc, hf⟩
theorem SeqNAt.rowne (hW : tW ≠ T) (h : SeqNAt T tW kd w γ id g cs q (some ⟨lb, 0, none⟩) lc least) : lb ≠ g := fun e => by
  have h1 := own_blk_ne h.2.2.2.1 h.1 hW
  exact h1 (by rw [e]; rfl)
theorem SeqNAt.rowlab (h : SeqNAt T tW kd w γ id g cs q (some ⟨lb, 0, none⟩) lc least) : γ lb = id := h.2.2.2.2 lb rfl
/-- a producer's least gate is written -/
theorem Its.setLst (hW : tW ≠ T) (hI : tW ≠ 3) (h : Its w0 γ0 S (a :: b :: itSN T tW kd id g cs q (some ⟨lb, 0, none⟩) lc least :: R) w γ) (k : Nat) (x : Int) :
    Its w0 γ0 S (a :: b :: itSN T tW kd id g cs q (some ⟨lb, 0, none⟩) lc (least.set k x) :: R) (w.setCell ⟨lb, k, none⟩ (.int kd x)) γ := by
  obtain ⟨h1, h2, h3, h4⟩ := (h.g2 : SeqNAt T tW kd w γ id g cs q (some ⟨lb, 0, none⟩) lc least)
  have hl : γ lb = id := h4.2 lb rfl
  have hf : Fr (OneId id) γ γ w (w.setCell ⟨lb, k, none⟩ (.int kd x)) := (Fr.refl _ _ _).setCell (p := ⟨lb, k, none⟩) (.inr hl) _
  have hs := h4.1.stored k (.int kd x)
  have hne := own_blk_ne h4.1 h1 hW
  refine h.s2 (y := itSN T tW kd id g cs q (some ⟨lb, 0, none⟩) lc (least.set k x)) rfl hf ⟨?_, h2, h3.kept hs.2 (own_own_ne h3.1 h4.1 (Ne.symm hI)), ?_, h4.2⟩
  · rw [List.length_set]; exact h1.grown hs.2 (fun e => hne e.symm)
  · have h5 := hs.1
    rw [← List.map_set] at h5
    rw [List.length_set]; exact h5
end
theorem Blk.cell4 {w : World} {g : Nat} {T : TypeId} {cs : Array Value} (h : Blk w g T cs) : w.cell? ⟨g, 4, none⟩ = cs[4]? := h.cell 4
theorem Blk.cell5 {w : World} {g : Nat} {T : TypeId} {cs : Array Value} (h : Blk w g T cs) : w.cell? ⟨g, 5, none⟩ = cs[5]? := h.cell 5
theorem blk_cellsN {w : World} {g : Nat} {t : TypeId} {a0 a1 a2 a3 a4 a5 a6 a7 a8 a9 a10 : Value} (h : Blk w g t #[a0, a1, a2, a3, a4, a5, a6, a7, a8, a9, a10]) : w.cell? ⟨g, 0, none⟩ = some a0 ∧ w.cell? ⟨g, 1, none⟩ = some a1 ∧ w.cell? ⟨g, 4, none⟩ = some a4 ∧ w.cell? ⟨g, 5, none⟩ = some a5 ∧ w.cell? ⟨g, 8, none⟩ = some a8 ∧ w.cell? ⟨g, 9, none⟩ = some a9 ∧ w.cell? ⟨g, 10, none⟩ = some a10 :=
  ⟨h.cell 0, h.cell 1, h.cell 4, h.cell 5, h.cell 8, h.cell 9, h.cell 10⟩
theorem BS.Ok.add_inG {M : Int} {b : BS} (h : b.Ok M) (hM : M = M32 ∨ M = M64) (t k n : Int) : InM M (b.add M t k n).1 := by
  unfold BS.add
  split
  · rename_i h1
    obtain ⟨_, _, _, hi⟩ := h.cell (.inl h1)
    exact hi
  · rcases hM with rfl | rfl <;> simp [InM, M32, M64]
/-- a run's state: in order, and not too long -/
structure StN (M : Int) (q : SqC) (n : Nat) (s : SqN) : Prop where
  fit : s.b.Fit M
  conf : s.b.l.c = q.c
  log : s.b.log.length ≤ n
  ev : s.ev.length ≤ 2 * n
  ends : q.ends.length ≤ 6
  len : (s.least.length : Int) = q.c.producers
end Go.Proofs.YtnkmlopjinihiaaDoor
