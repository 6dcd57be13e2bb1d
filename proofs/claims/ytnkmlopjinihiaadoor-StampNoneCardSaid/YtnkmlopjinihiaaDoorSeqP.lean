/- Plain: a sequencer's state beside its board: what happened, and (of one producer) the next position and the least gate that is known. No program is walked. -/
import Derived.Test.YtnkmlopjinihiaaDoorEvP
import Derived.Test.YtnkmlopjinihiaaDoorGateP
namespace Go.Proofs.YtnkmlopjinihiaaDoor
open Go.RowKit
set_option linter.unusedVariables false
set_option linter.unusedSimpArgs false

/-- how a sequencer was made: its configuration, the cells of the ends' gates, the cell it claims by -/
structure SqC where
  c : Cf
  ends : List Int
  cell : Int
  ea : Option Addr
  ec : Nat
/-- a sequencer's state, of one producer -/
structure Sq1 where
  b : BS
  ev : List Ev
  next : Int
  least : Int
def mayP (q : SqC) (t : Int) (f : FrS) : Bool := decide (0 ≤ t ∧ t < q.c.producers ∧ 1 ≤ f.n ∧ f.n ≤ q.c.cap)
def takeEv (t : Int) (f : FrS) : Ev := ⟨3, t, 0, f.n, f.from_, 0⟩
def grantEv (t : Int) : Ev := ⟨4, t, 0, 0, 0, 0⟩
def putEv (t n pos : Int) : Ev := ⟨5, t, 0, n, pos, 0⟩
def grant1 (M : Int) (t : Int) (s : Sq1) (f : FrS) : Bool × Sq1 × FrS :=
  (true, { s with next := addM M s.next f.n, ev := s.ev ++ [takeEv t { f with pc := 0 }] ++ [grantEv t] }, { f with pc := 0 })
def scan1 (M : Int) (q : SqC) (t : Int) (s : Sq1) (f : FrS) : Bool × Sq1 × FrS :=
  let r := scanP M s.b t q.ends f
  if r.1 = false then (false, { s with b := r.2.1 }, r.2.2)
  else if fitsP M q.c.cap r.2.2.from_ r.2.2.n r.2.2.min = false then (false, { s with b := r.2.1, least := r.2.2.min }, r.2.2)
  else grant1 M t { s with b := r.2.1, least := r.2.2.min } r.2.2
def claim1 (M : Int) (q : SqC) (t : Int) (s : Sq1) (f : FrS) : Bool × Sq1 × FrS :=
  if mayP q t f = false then (true, s, f)
  else if f.pc = 1 then scan1 M q t s f
  else if fitsP M q.c.cap s.next f.n s.least then grant1 M t s { f with from_ := s.next }
  else scan1 M q t s { f with from_ := s.next, pc := 1, i := 0 }
def publish1 (M : Int) (q : SqC) (t : Int) (s : Sq1) (f : FrS) : Bool × Sq1 × FrS :=
  if mayP q t f = false then (true, s, f)
  else (true, { s with b := s.b.store t q.cell (addM M f.from_ f.n), ev := s.ev ++ [putEv t f.n f.from_] }, f)
def tip1 (q : SqC) (t : Int) (s : Sq1) (f : FrS) : Bool × Sq1 × FrS :=
  (true, { s with b := (s.b.load t q.cell).2 }, { f with val := (s.b.load t q.cell).1 })
/-- a sequencer of one producer in memory: where its board, its events lie -/
def Seq1At (T : TypeId) (kd : IntKind) (w : World) (γ : Nat → Nat) (id g p lg : Nat) (q : SqC) (next least : Int) : Prop :=
  Blk w g T #[.pointer (some ⟨p, 0, none⟩), .pointer (some ⟨lg, 0, none⟩), .int .i64 q.c.variant, .int .i64 q.c.width, .int .i64 q.c.cap, .int .i64 q.c.producers, .int .u64 q.c.start, .slice q.c.ua q.c.un q.c.uc, .slice q.ea q.ends.length q.ec, .int .i64 q.cell, .int kd next, .int kd least] ∧ γ g = id ∧ RowAt w γ id 3 1 (.slice q.ea q.ends.length q.ec) q.ends.length (q.ends.map (Value.int .i64))
theorem Seq1At.keptI {T : TypeId} {kd : IntKind} {id g p lg : Nat} {q : SqC} {next least : Int} {w w' : World} {γ γ' : Nat → Nat} (h : Seq1At T kd w γ id g p lg q next least) (hk : Kept id w w' γ γ') : Seq1At T kd w' γ' id g p lg q next least := by
  obtain ⟨h1, h2, h3⟩ := h
  have hb := h1.keptI h2 hk
  exact ⟨hb.1, hb.2, h3.keptI hk⟩
def itS1 (T : TypeId) (kd : IntKind) (id g p lg : Nat) (q : SqC) (next least : Int) : It := ⟨id, fun w γ => Seq1At T kd w γ id g p lg q next least, fun h hk => h.keptI hk⟩
/-- registers in a block -/
def itF (kd : IntKind) (id F : Nat) (T : TypeId) (pre : List Value) (fs : List FrS) (post : List Value) : It := itK id F T (frsCs kd pre fs post)
theorem blk_cells12 {w : World} {g : Nat} {t : TypeId} {a0 a1 a2 a3 a4 a5 a6 a7 a8 a9 a10 a11 : Value} (h : Blk w g t #[a0, a1, a2, a3, a4, a5, a6, a7, a8, a9, a10, a11]) : w.cell? ⟨g, 0, none⟩ = some a0 ∧ w.cell? ⟨g, 1, none⟩ = some a1 ∧ w.cell? ⟨g, 2, none⟩ = some a2 ∧ w.cell? ⟨g, 3, none⟩ = some a3 ∧ w.cell? ⟨g, 4, none⟩ = some a4 ∧ w.cell? ⟨g, 5, none⟩ = some a5 ∧ w.cell? ⟨g, 8, none⟩ = some a8 ∧ w.cell? ⟨g, 9, none⟩ = some a9 ∧ w.cell? ⟨g, 10, none⟩ = some a10 ∧ w.cell? ⟨g, 11, none⟩ = some a11 :=
  ⟨h.cell 0, h.cell 1, h.cell 2, h.cell 3, h.cell 4, h.cell 5, h.cell 8, h.cell 9, h.cell 10, h.cell 11⟩
/-- where a call's four things lie: a board, events, a sequencer, registers (the t-th of a block) -/
structure QP where
  T : TypeId
  p : Nat
  lg : Nat
  g : Nat
  fb : Nat
  o : Nat
  t : Nat
  pre : List Value
  post : List Value
  fs : List FrS
  ib : Nat
  il : Nat
  is_ : Nat
  ifr : Nat
  ho : o = pre.length + 11 * t
  ht : t < fs.length
def QP.fr (P : QP) (kd : IntKind) (f : FrS) : It := itK P.ifr P.fb P.T (frsCs kd P.pre (P.fs.set P.t f) P.post)
theorem QP.cell {P : QP} {kd : IntKind} {w : World} {f : FrS} (h : Blk w P.fb P.T (frsCs kd P.pre (P.fs.set P.t f) P.post)) (k : Nat) (hk : k < 11) : w.cell? ⟨P.fb, P.o + k, none⟩ = (f.vs kd)[k]? := by
  rw [h.cell]; exact frs_get P.ho (by rw [List.getElem?_set_self P.ht]) k hk
section
variable {w0 w w' : World} {γ0 γ γ' : Nat → Nat} {S : Nat → Prop} {kd : IntKind} {P : QP} {f f' : FrS} {a b c : It} {R : List It}
/-- a cell of the registers is written -/
theorem Its.setFr (h : Its w0 γ0 S (a :: b :: c :: P.fr kd f :: R) w γ) {k : Nat} (hk : k < 11) {u : Value} (hf : (f.vs kd).set k u = f'.vs kd) : Its w0 γ0 S (a :: b :: c :: P.fr kd f' :: R) (w.setCell ⟨P.fb, P.o + k, none⟩ u) γ := by
  have hb : Blk w P.fb P.T (frsCs kd P.pre (P.fs.set P.t f) P.post) ∧ γ P.fb = P.ifr := h.g3
  refine h.s3 (y := P.fr kd f') rfl ((Fr.refl _ _ _).setCell (p := ⟨P.fb, P.o + k, none⟩) (.inr hb.2) u) ⟨?_, hb.2⟩
  have h2 := hb.1.set_ (P.o + k) u
  rw [frs_set P.ho (by rw [List.getElem?_set_self P.ht]) hk hf, List.set_set] at h2
  exact h2
theorem Its.setPc (h : Its w0 γ0 S (a :: b :: c :: P.fr kd f :: R) w γ) (x : Int) : Its w0 γ0 S (a :: b :: c :: P.fr kd { f with pc := x } :: R) (w.setCell ⟨P.fb, P.o + 3, none⟩ (.int .i64 x)) γ := h.setFr (by omega) rfl
theorem Its.setI (h : Its w0 γ0 S (a :: b :: c :: P.fr kd f :: R) w γ) (x : Int) : Its w0 γ0 S (a :: b :: c :: P.fr kd { f with i := x } :: R) (w.setCell ⟨P.fb, P.o + 4, none⟩ (.int .i64 x)) γ := h.setFr (by omega) rfl
theorem Its.setJ (h : Its w0 γ0 S (a :: b :: c :: P.fr kd f :: R) w γ) (x : Int) : Its w0 γ0 S (a :: b :: c :: P.fr kd { f with j := x } :: R) (w.setCell ⟨P.fb, P.o + 5, none⟩ (.int .i64 x)) γ := h.setFr (by omega) rfl
theorem Its.setFrom (h : Its w0 γ0 S (a :: b :: c :: P.fr kd f :: R) w γ) (x : Int) : Its w0 γ0 S (a :: b :: c :: P.fr kd { f with from_ := x } :: R) (w.setCell ⟨P.fb, P.o + 6, none⟩ (.int kd x)) γ := h.setFr (by omega) rfl
theorem Its.setVal (h : Its w0 γ0 S (a :: b :: c :: P.fr kd f :: R) w γ) (x : Int) : Its w0 γ0 S (a :: b :: c :: P.fr kd { f with val := x } :: R) (w.setCell ⟨P.fb, P.o + 8, none⟩ (.int kd x)) γ := h.setFr (by omega) rfl
/-- the board and the registers, for the contracts that speak of these alone -/
def QP.bf (P : QP) (h : P.ifr ≠ P.ib) : BFP := { T := P.T, id := P.ib, fid := P.ifr, p := P.p, fb := P.fb, o := P.o, t := P.t, pre := P.pre, post := P.post, fs := P.fs, hne := h, ho := P.ho, ht := P.ht }
theorem Its.bfAt {tB tW tA : TypeId} {x : BS} (h : Its w0 γ0 S (itB tB tW tA kd P.ib P.p x :: b :: c :: P.fr kd f :: R) w γ) (hne : P.ifr ≠ P.ib) : BFAt tB tW tA kd (P.bf hne) w γ w γ x f :=
  have hb : Blk w P.fb P.T (frsCs kd P.pre (P.fs.set P.t f) P.post) ∧ γ P.fb = P.ifr := h.g3
  ⟨h.g0, hb.1, hb.2, Fr.refl _ _ _⟩
theorem Its.bfEnd {tB tW tA : TypeId} {x x' : BS} {v : Value} {e : Ending} (h : Its w0 γ0 S (itB tB tW tA kd P.ib P.p x :: b :: c :: P.fr kd f :: R) w γ) (hne : P.ifr ≠ P.ib) (hq : BFEnd tB tW tA kd (P.bf hne) w γ v x' f' e w') :
    e = .returned v ∧ ∃ γ', Its w0 γ0 S (itB tB tW tA kd P.ib P.p x' :: b :: c :: P.fr kd f' :: R) w' γ' := by
  obtain ⟨he, γ', hb, hf, hl, hfr⟩ := hq
  exact ⟨he, γ', h.step2 0 3 _ _ (itB tB tW tA kd P.ib P.p x') (P.fr kd f') (by decide) rfl rfl rfl rfl hfr hb ⟨hf, hl⟩⟩
theorem Its.ne03 (h : Its w0 γ0 S (a :: b :: c :: P.fr kd f :: R) w γ) : P.ifr ≠ a.id := h.nid (k := 3) (m := 0) rfl rfl (by decide)
/-- what a call that turns one thing does -/
theorem Its.one0 {x y : It} {v : Value} {e : Ending} (h : Its w0 γ0 S (x :: R) w γ) (hid : y.id = x.id) (hq : OneEnd y w γ v e w') : e = .returned v ∧ ∃ γ', Its w0 γ0 S (y :: R) w' γ' := by
  obtain ⟨he, γ', hp, hf⟩ := hq
  exact ⟨he, γ', h.s0 hid (hid ▸ hf) hp⟩
theorem Its.one1 {x y : It} {v : Value} {e : Ending} (h : Its w0 γ0 S (a :: x :: R) w γ) (hid : y.id = x.id) (hq : OneEnd y w γ v e w') : e = .returned v ∧ ∃ γ', Its w0 γ0 S (a :: y :: R) w' γ' := by
  obtain ⟨he, γ', hp, hf⟩ := hq
  exact ⟨he, γ', h.s1 hid (hid ▸ hf) hp⟩
theorem Its.mut0 {tB tW tA : TypeId} {id p : Nat} {x x' : BS} {v : Value} {e : Ending} (h : Its w0 γ0 S (itB tB tW tA kd id p x :: R) w γ) (hq : MutEnd tB tW tA kd w γ id p v x' e w') : e = .returned v ∧ ∃ γ', Its w0 γ0 S (itB tB tW tA kd id p x' :: R) w' γ' := by
  obtain ⟨he, γ', hp, hf⟩ := hq
  exact ⟨he, γ', h.s0 (y := itB tB tW tA kd id p x') rfl hf hp⟩
/-- a cell of a sequencer of one producer is written -/
theorem Its.setNext {T : TypeId} {id g p lg : Nat} {q : SqC} {next least : Int} (hT : 3 ≠ T) (h : Its w0 γ0 S (a :: b :: itS1 T kd id g p lg q next least :: R) w γ) (x : Int) : Its w0 γ0 S (a :: b :: itS1 T kd id g p lg q x least :: R) (w.setCell ⟨g, 10, none⟩ (.int kd x)) γ := by
  obtain ⟨h1, h2, h3⟩ := h.g2
  have hf : Fr (OneId id) γ γ w (w.setCell ⟨g, 10, none⟩ (.int kd x)) := (Fr.refl _ _ _).setCell (p := ⟨g, 10, none⟩) (.inr h2) _
  exact h.s2 (y := itS1 T kd id g p lg q x least) rfl hf ⟨h1.set_ 10 _, h2, h3.kept (grown_setCell w g 10 _) (.inr (own_blk_ne h3.1 h1 hT))⟩
theorem Its.setLeast {T : TypeId} {id g p lg : Nat} {q : SqC} {next least : Int} (hT : 3 ≠ T) (h : Its w0 γ0 S (a :: b :: itS1 T kd id g p lg q next least :: R) w γ) (x : Int) : Its w0 γ0 S (a :: b :: itS1 T kd id g p lg q next x :: R) (w.setCell ⟨g, 11, none⟩ (.int kd x)) γ := by
  obtain ⟨h1, h2, h3⟩ := h.g2
  have hf : Fr (OneId id) γ γ w (w.setCell ⟨g, 11, none⟩ (.int kd x)) := (Fr.refl _ _ _).setCell (p := ⟨g, 11, none⟩) (.inr h2) _
  exact h.s2 (y := itS1 T kd id g p lg q next x) rfl hf ⟨h1.set_ 11 _, h2, h3.kept (grown_setCell w g 11 _) (.inr (own_blk_ne h3.1 h1 hT))⟩
end
end Go.Proofs.YtnkmlopjinihiaaDoor
