/- Registers of threads in memory, one behind the other in a block; a board and one thread's registers, carried through calls. No program is walked. -/
import Derived.Test.YtnkmlopjinihiaaDoorBoardM
namespace Go.Proofs.YtnkmlopjinihiaaDoor
open Go.RowKit
set_option linter.unusedVariables false
set_option linter.unusedSimpArgs false

structure FrS where
  op : Int := 0
  n : Int := 0
  phase : Int := 0
  pc : Int := 0
  i : Int := 0
  j : Int := 0
  from_ : Int := 0
  min : Int := 0
  val : Int := 0
  own : Int := 0
  da : Option Addr := none
  dn : Nat := 0
  dc : Nat := 0
def FrS.vs (kd : IntKind) (f : FrS) : List Value := [.int .i64 f.op, .int .i64 f.n, .int .i64 f.phase, .int .i64 f.pc, .int .i64 f.i, .int .i64 f.j, .int kd f.from_, .int kd f.min, .int kd f.val, .int kd f.own, .slice f.da f.dn f.dc]
def frsL (kd : IntKind) (fs : List FrS) : List Value := fs.flatMap (FrS.vs kd)
def frsCs (kd : IntKind) (pre : List Value) (fs : List FrS) (post : List Value) : Array Value := (pre ++ (frsL kd fs ++ post)).toArray
theorem frsL_cons (kd : IntKind) (f : FrS) (fs : List FrS) : frsL kd (f :: fs) = f.vs kd ++ frsL kd fs := rfl
theorem frsL_length (kd : IntKind) (fs : List FrS) : (frsL kd fs).length = 11 * fs.length := by
  induction fs with
  | nil => rfl
  | cons f fs ih => rw [frsL_cons, List.length_append, ih]; simp [FrS.vs]; omega
theorem frsL_get {kd : IntKind} {f : FrS} : ∀ {fs : List FrS} {t : Nat}, fs[t]? = some f → ∀ (post : List Value) (k : Nat), k < 11 → (frsL kd fs ++ post)[11 * t + k]? = (f.vs kd)[k]?
  | [], t, h, _, _, _ => by simp at h
  | g :: fs, 0, h, post, k, hk => by
    obtain rfl : g = f := by simpa using h
    rw [frsL_cons, List.append_assoc, List.getElem?_append_left (by simp [FrS.vs]; omega)]
    simp
  | g :: fs, t + 1, h, post, k, hk => by
    rw [frsL_cons, List.append_assoc, List.getElem?_append_right (by simp [FrS.vs]; omega)]
    have : 11 * (t + 1) + k - (g.vs kd).length = 11 * t + k := by simp [FrS.vs]; omega
    rw [this]
    exact frsL_get (by simpa using h) post k hk
theorem frsL_set {kd : IntKind} {f f' : FrS} {k : Nat} {u : Value} (hk : k < 11) (hf : (f.vs kd).set k u = f'.vs kd) : ∀ {fs : List FrS} {t : Nat}, fs[t]? = some f → ∀ (post : List Value), (frsL kd fs ++ post).set (11 * t + k) u = frsL kd (fs.set t f') ++ post
  | [], t, h, _ => by simp at h
  | g :: fs, 0, h, post => by
    obtain rfl : g = f := by simpa using h
    rw [frsL_cons, List.append_assoc, List.set_append_left _ _ (by simp [FrS.vs]; omega)]
    simp only [List.set_cons_zero, frsL_cons, List.append_assoc]
    rw [show 11 * 0 + k = k by omega, hf]
  | g :: fs, t + 1, h, post => by
    rw [frsL_cons, List.append_assoc, List.set_append_right _ _ (by simp [FrS.vs]; omega)]
    have : 11 * (t + 1) + k - (g.vs kd).length = 11 * t + k := by simp [FrS.vs]; omega
    rw [this, frsL_set hk hf (by simpa using h) post, List.set_cons_succ, frsL_cons, List.append_assoc]
theorem frs_get {kd : IntKind} {pre post : List Value} {fs : List FrS} {t o : Nat} {f : FrS} (ho : o = pre.length + 11 * t) (ht : fs[t]? = some f) (k : Nat) (hk : k < 11) : (frsCs kd pre fs post)[o + k]? = (f.vs kd)[k]? := by
  subst ho
  unfold frsCs
  rw [List.getElem?_toArray, List.getElem?_append_right (by omega), show pre.length + 11 * t + k - pre.length = 11 * t + k by omega]
  exact frsL_get ht post k hk
theorem frs_set {kd : IntKind} {pre post : List Value} {fs : List FrS} {t o : Nat} {f f' : FrS} {u : Value} {k : Nat} (ho : o = pre.length + 11 * t) (ht : fs[t]? = some f) (hk : k < 11) (hf : (f.vs kd).set k u = f'.vs kd) :
    (frsCs kd pre fs post).setIfInBounds (o + k) u = frsCs kd pre (fs.set t f') post := by
  subst ho
  unfold frsCs
  rw [List.setIfInBounds_toArray, List.set_append_right _ _ (by omega), show pre.length + 11 * t + k - pre.length = 11 * t + k by omega, frsL_set hk hf ht post]

/-- where a board lies, and registers: the t-th ones of a block, ahead of them and behind them other cells -/
structure BFP where
  T : TypeId
  id : Nat
  fid : Nat
  p : Nat
  fb : Nat
  o : Nat
  t : Nat
  pre : List Value
  post : List Value
  fs : List FrS
  hne : fid ≠ id
  ho : o = pre.length + 11 * t
  ht : t < fs.length
/-- the board b lies there, and the registers f; nothing else has turned since (w0, γ0) -/
structure BFAt (tB tW tA : TypeId) (kd : IntKind) (P : BFP) (w0 : World) (γ0 : Nat → Nat) (w : World) (γ : Nat → Nat) (b : BS) (f : FrS) : Prop where
  brd : BoardAt tB tW tA kd w γ P.id P.p b
  blk : Blk w P.fb P.T (frsCs kd P.pre (P.fs.set P.t f) P.post)
  lab : γ P.fb = P.fid
  fr : Fr (TwoId P.id P.fid) γ0 γ w0 w
section
variable {tB tW tA : TypeId} {kd : IntKind} {P : BFP} {w0 w w' : World} {γ0 γ γ' : Nat → Nat} {b b' : BS} {f f' : FrS}
theorem BFP.get (P : BFP) (f : FrS) : (P.fs.set P.t f)[P.t]? = some f := by rw [List.getElem?_set_self P.ht]
theorem BFAt.cell (h : BFAt tB tW tA kd P w0 γ0 w γ b f) (k : Nat) (hk : k < 11) : w.cell? ⟨P.fb, P.o + k, none⟩ = (f.vs kd)[k]? := by
  rw [h.blk.cell]; exact frs_get P.ho (P.get f) k hk
theorem BFAt.lt (h : BFAt tB tW tA kd P w0 γ0 w γ b f) : P.fb < w.heap.size := h.blk.lt
theorem BFAt.cN (h : BFAt tB tW tA kd P w0 γ0 w γ b f) : w.cell? ⟨P.fb, P.o + 1, none⟩ = some (.int .i64 f.n) := h.cell 1 (by omega)
theorem BFAt.cPhase (h : BFAt tB tW tA kd P w0 γ0 w γ b f) : w.cell? ⟨P.fb, P.o + 2, none⟩ = some (.int .i64 f.phase) := h.cell 2 (by omega)
theorem BFAt.cPc (h : BFAt tB tW tA kd P w0 γ0 w γ b f) : w.cell? ⟨P.fb, P.o + 3, none⟩ = some (.int .i64 f.pc) := h.cell 3 (by omega)
theorem BFAt.cI (h : BFAt tB tW tA kd P w0 γ0 w γ b f) : w.cell? ⟨P.fb, P.o + 4, none⟩ = some (.int .i64 f.i) := h.cell 4 (by omega)
theorem BFAt.cFrom (h : BFAt tB tW tA kd P w0 γ0 w γ b f) : w.cell? ⟨P.fb, P.o + 6, none⟩ = some (.int kd f.from_) := h.cell 6 (by omega)
theorem BFAt.cMin (h : BFAt tB tW tA kd P w0 γ0 w γ b f) : w.cell? ⟨P.fb, P.o + 7, none⟩ = some (.int kd f.min) := h.cell 7 (by omega)
theorem BFAt.cVal (h : BFAt tB tW tA kd P w0 γ0 w γ b f) : w.cell? ⟨P.fb, P.o + 8, none⟩ = some (.int kd f.val) := h.cell 8 (by omega)
theorem BFAt.cOwn (h : BFAt tB tW tA kd P w0 γ0 w γ b f) : w.cell? ⟨P.fb, P.o + 9, none⟩ = some (.int kd f.own) := h.cell 9 (by omega)
theorem BFAt.frozen (h : BFAt tB tW tA kd P w0 γ0 w γ b f) (k : Nat) : w.frozen? ⟨P.fb, k, none⟩ = false := h.blk.frozen k
theorem BFAt.mut {v : Value} {e : Ending} (h : BFAt tB tW tA kd P w0 γ0 w γ b f) (hm : MutEnd tB tW tA kd w γ P.id P.p v b' e w') : e = .returned v ∧ ∃ γ', BFAt tB tW tA kd P w0 γ0 w' γ' b' f := by
  obtain ⟨he, γ', hB, hfr⟩ := hm
  exact ⟨he, γ', hB, hfr.block_ h.blk (by rw [h.lab]; exact P.hne), (hfr.lab _ h.blk.lt).trans h.lab, h.fr.trans (hfr.mono (fun i hi => .inl hi))⟩
theorem BFAt.below (h : BFAt tB tW tA kd P w0 γ0 w γ b f) (hb : Below w.heap.size w w') : BFAt tB tW tA kd P w0 γ0 w' γ b f :=
  ⟨h.brd.below hb, h.blk.below hb h.blk.lt, h.lab, h.fr.trans (Fr.of_below hb _ _)⟩
theorem BFAt.drewN (h : BFAt tB tW tA kd P w0 γ0 w γ b f) (n : Nat) : BFAt tB tW tA kd P w0 γ0 (w.drewN n) γ b f := h.below (below_drewN (Below.refl _ _) n)
theorem BFAt.set_ (h : BFAt tB tW tA kd P w0 γ0 w γ b f) {k : Nat} (hk : k < 11) {u : Value} (hf : (f.vs kd).set k u = f'.vs kd) : BFAt tB tW tA kd P w0 γ0 (w.setCell ⟨P.fb, P.o + k, none⟩ u) γ b f' := by
  have h1 : Fr (OneId P.fid) γ γ w (w.setCell ⟨P.fb, P.o + k, none⟩ u) := (Fr.refl _ _ _).setCell (p := ⟨P.fb, P.o + k, none⟩) (.inr h.lab) u
  refine ⟨h.brd.fr h1 (fun e => P.hne e.symm), ?_, h.lab, h.fr.trans (h1.mono (fun i hi => .inr hi))⟩
  have h2 := h.blk.set_ (P.o + k) u
  rw [frs_set P.ho (P.get f) hk hf, List.set_set] at h2
  exact h2
theorem BFAt.setN (h : BFAt tB tW tA kd P w0 γ0 w γ b f) (x : Int) : BFAt tB tW tA kd P w0 γ0 (w.setCell ⟨P.fb, P.o + 1, none⟩ (.int .i64 x)) γ b { f with n := x } := h.set_ (by omega) rfl
theorem BFAt.setPhase (h : BFAt tB tW tA kd P w0 γ0 w γ b f) (x : Int) : BFAt tB tW tA kd P w0 γ0 (w.setCell ⟨P.fb, P.o + 2, none⟩ (.int .i64 x)) γ b { f with phase := x } := h.set_ (by omega) rfl
theorem BFAt.setPc (h : BFAt tB tW tA kd P w0 γ0 w γ b f) (x : Int) : BFAt tB tW tA kd P w0 γ0 (w.setCell ⟨P.fb, P.o + 3, none⟩ (.int .i64 x)) γ b { f with pc := x } := h.set_ (by omega) rfl
theorem BFAt.setI (h : BFAt tB tW tA kd P w0 γ0 w γ b f) (x : Int) : BFAt tB tW tA kd P w0 γ0 (w.setCell ⟨P.fb, P.o + 4, none⟩ (.int .i64 x)) γ b { f with i := x } := h.set_ (by omega) rfl
theorem BFAt.setFrom (h : BFAt tB tW tA kd P w0 γ0 w γ b f) (x : Int) : BFAt tB tW tA kd P w0 γ0 (w.setCell ⟨P.fb, P.o + 6, none⟩ (.int kd x)) γ b { f with from_ := x } := h.set_ (by omega) rfl
theorem BFAt.setMin (h : BFAt tB tW tA kd P w0 γ0 w γ b f) (x : Int) : BFAt tB tW tA kd P w0 γ0 (w.setCell ⟨P.fb, P.o + 7, none⟩ (.int kd x)) γ b { f with min := x } := h.set_ (by omega) rfl
theorem BFAt.setVal (h : BFAt tB tW tA kd P w0 γ0 w γ b f) (x : Int) : BFAt tB tW tA kd P w0 γ0 (w.setCell ⟨P.fb, P.o + 8, none⟩ (.int kd x)) γ b { f with val := x } := h.set_ (by omega) rfl
theorem BFAt.setOwn (h : BFAt tB tW tA kd P w0 γ0 w γ b f) (x : Int) : BFAt tB tW tA kd P w0 γ0 (w.setCell ⟨P.fb, P.o + 9, none⟩ (.int kd x)) γ b { f with own := x } := h.set_ (by omega) rfl
/-- what a call that turns a board and registers ends with -/
def BFEnd (tB tW tA : TypeId) (kd : IntKind) (P : BFP) (w0 : World) (γ0 : Nat → Nat) (v : Value) (b' : BS) (f' : FrS) (e : Ending) (w' : World) : Prop := e = .returned v ∧ ∃ γ', BFAt tB tW tA kd P w0 γ0 w' γ' b' f'
end
end Go.Proofs.YtnkmlopjinihiaaDoor
