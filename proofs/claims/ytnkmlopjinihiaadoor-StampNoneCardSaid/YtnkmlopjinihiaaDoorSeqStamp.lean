/- Contracts of seqstamp's methods, for both widths: the things (board, events, sequencer, registers) behind a call. -/
import Derived.Test.YtnkmlopjinihiaaDoorSeqMay
import Derived.Test.YtnkmlopjinihiaaDoorSeqNP
import Derived.Test.YtnkmlopjinihiaaDoorAloneN
import Derived.Test.YtnkmlopjinihiaaDoorScope
import Derived.Test.YtnkmlopjinihiaaDoorEvent
import Derived.Test.YtnkmlopjinihiaaDoorGate
import Derived.Test.YtnkmlopjinihiaaDoorMark2
import Derived.Test.YtnkmlopjinihiaaDoorTurnF
import Derived.IntWalk
namespace Go.Proofs.YtnkmlopjinihiaaDoor
open Go.RowKit
set_option linter.unusedVariables false
set_option linter.unusedSimpArgs false
set_option maxHeartbeats 4000000

/-- what lies around a call -/
def Q432 (w0 : World) (γ0 : Nat → Nat) (S : Nat → Prop) (R : List It) (P : QP) (la : Option Addr) (lc : Nat) (q : SqC) (s : SqN) (f : FrS) (w : World) (γ : Nat → Nat) : Prop :=
  Its w0 γ0 S (itB 132 48 208 .u32 P.ib P.p s.b :: itL 155 162 P.il P.lg s.ev :: itSN 165 48 .u32 P.is_ P.g (fun n => csX P.p P.lg q la n lc) q la lc s.least :: P.fr .u32 f :: R) w γ
def Q4End32 (w0 : World) (γ0 : Nat → Nat) (S : Nat → Prop) (R : List It) (P : QP) (la : Option Addr) (lc : Nat) (q : SqC) (r : Bool × SqN × FrS) (e : Ending) (w' : World) : Prop :=
  e = .returned (.bool r.1) ∧ ∃ γ', Q432 w0 γ0 S R P la lc q r.2.1 r.2.2 w' γ'
section
variable {w0 w w' : World} {γ0 γ : Nat → Nat} {S : Nat → Prop} {R : List It} {P : QP} {la : Option Addr} {lc : Nat} {q : SqC} {s : SqN} {f f' : FrS}
theorem Q432.seq (h : Q432 w0 γ0 S R P la lc q s f w γ) : w.cell? ⟨P.g, 0, none⟩ = some (.pointer (some ⟨P.p, 0, none⟩)) ∧ w.cell? ⟨P.g, 1, none⟩ = some (.pointer (some ⟨P.lg, 0, none⟩)) ∧ w.cell? ⟨P.g, 2, none⟩ = some (.int .i64 q.c.variant) ∧ w.cell? ⟨P.g, 3, none⟩ = some (.int .i64 q.c.width) ∧ w.cell? ⟨P.g, 4, none⟩ = some (.int .i64 q.c.cap) ∧ w.cell? ⟨P.g, 5, none⟩ = some (.int .i64 q.c.producers) ∧ w.cell? ⟨P.g, 6, none⟩ = some (.int .u64 q.c.start) ∧ w.cell? ⟨P.g, 7, none⟩ = some (.slice q.c.ua q.c.un q.c.uc) ∧ w.cell? ⟨P.g, 8, none⟩ = some (.int .i64 (mkLay q.c).cursor) ∧ w.cell? ⟨P.g, 9, none⟩ = some (.int .i64 (mkLay q.c).claim) ∧ w.cell? ⟨P.g, 10, none⟩ = some (.int .i64 (mkLay q.c).ticket) ∧ w.cell? ⟨P.g, 11, none⟩ = some (.int .i64 (mkLay q.c).serving) ∧ w.cell? ⟨P.g, 12, none⟩ = some (.int .i64 (mkLay q.c).next) ∧ w.cell? ⟨P.g, 13, none⟩ = some (.int .i64 (mkLay q.c).marks) ∧ w.cell? ⟨P.g, 14, none⟩ = some (.int .i64 (mkLay q.c).slots) ∧ w.cell? ⟨P.g, 15, none⟩ = some (.int .i64 (mkLay q.c).cells) ∧ w.cell? ⟨P.g, 16, none⟩ = some (.slice q.ea q.ends.length q.ec) ∧ w.cell? ⟨P.g, 17, none⟩ = some (.slice la s.least.length lc) ∧ P.g < w.heap.size := by
  have hb : SeqNAt 165 48 .u32 w γ P.is_ P.g (fun n => csX P.p P.lg q la n lc) q la lc s.least := Its.g2 h
  exact ⟨hb.1.cell 0, hb.1.cell 1, hb.1.cell 2, hb.1.cell 3, hb.1.cell 4, hb.1.cell 5, hb.1.cell 6, hb.1.cell 7, hb.1.cell 8, hb.1.cell 9, hb.1.cell 10, hb.1.cell 11, hb.1.cell 12, hb.1.cell 13, hb.1.cell 14, hb.1.cell 15, hb.1.cell 16, hb.1.cell 17, hb.1.lt⟩
theorem Q432.ends (h : Q432 w0 γ0 S R P la lc q s f w γ) : IntsAt w (fun b => b < w.heap.size) q.ea q.ends := by
  have hb : SeqNAt 165 48 .u32 w γ P.is_ P.g (fun n => csX P.p P.lg q la n lc) q la lc s.least := Its.g2 h
  exact ints_of_own hb.2.2.1.1 (fun g _ h => h)
/-- what a producer knows of the gates -/
theorem Q432.row (h : Q432 w0 γ0 S R P la lc q s f w γ) {k : Nat} (hk : k < s.least.length) : ∃ lb, la = some ⟨lb, 0, none⟩ ∧ lb < w.heap.size ∧ w.cell? ⟨lb, k, none⟩ = some (.int .u32 (s.lst k)) ∧ w.frozen? ⟨lb, k, none⟩ = false := by
  have hb : SeqNAt 165 48 .u32 w γ P.is_ P.g (fun n => csX P.p P.lg q la n lc) q la lc s.least := Its.g2 h
  exact hb.row hk
theorem Q432.rowne {lb : Nat} (h : Q432 w0 γ0 S R P (some ⟨lb, 0, none⟩) lc q s f w γ) : lb ≠ P.g ∧ P.g ≠ lb ∧ lb ≠ P.fb ∧ P.fb ≠ lb := by
  have hb : SeqNAt 165 48 .u32 w γ P.is_ P.g (fun n => csX P.p P.lg q (some ⟨lb, 0, none⟩) n lc) q (some ⟨lb, 0, none⟩) lc s.least := Its.g2 h
  have h1 := hb.rowne (by decide)
  have hf : Blk w P.fb P.T (frsCs .u32 P.pre (P.fs.set P.t f) P.post) ∧ γ P.fb = P.ifr := Its.g3 h
  have hn : P.is_ ≠ P.ifr := Its.nid h (k := 2) (m := 3) rfl rfl (by decide)
  have h2 : lb ≠ P.fb := fun e => hn (by rw [← hb.rowlab, ← hf.2, e])
  exact ⟨h1, fun e => h1 e.symm, h2, fun e => h2 e.symm⟩
theorem Q432.reg (h : Q432 w0 γ0 S R P la lc q s f w γ) : w.cell? ⟨P.fb, P.o + 1, none⟩ = some (.int .i64 f.n) ∧ w.cell? ⟨P.fb, P.o + 3, none⟩ = some (.int .i64 f.pc) ∧ w.cell? ⟨P.fb, P.o + 4, none⟩ = some (.int .i64 f.i) ∧ w.cell? ⟨P.fb, P.o + 6, none⟩ = some (.int .u32 f.from_) ∧ w.cell? ⟨P.fb, P.o + 7, none⟩ = some (.int .u32 f.min) ∧ w.cell? ⟨P.fb, P.o + 8, none⟩ = some (.int .u32 f.val)
    ∧ w.cell? ⟨P.fb, P.o + 5, none⟩ = some (.int .i64 f.j) ∧ (∀ k, w.frozen? ⟨P.fb, k, none⟩ = false) ∧ P.fb < w.heap.size := by
  have hb : Blk w P.fb P.T (frsCs .u32 P.pre (P.fs.set P.t f) P.post) ∧ γ P.fb = P.ifr := Its.g3 h
  exact ⟨QP.cell hb.1 1 (by omega), QP.cell hb.1 3 (by omega), QP.cell hb.1 4 (by omega), QP.cell hb.1 6 (by omega), QP.cell hb.1 7 (by omega), QP.cell hb.1 8 (by omega), QP.cell hb.1 5 (by omega), fun k => hb.1.frozen k, hb.1.lt⟩
theorem Q432.ne (h : Q432 w0 γ0 S R P la lc q s f w γ) : P.g ≠ P.fb ∧ P.fb ≠ P.g := by
  have hb : Blk w P.fb P.T (frsCs .u32 P.pre (P.fs.set P.t f) P.post) ∧ γ P.fb = P.ifr := Its.g3 h
  have hs : SeqNAt 165 48 .u32 w γ P.is_ P.g (fun n => csX P.p P.lg q la n lc) q la lc s.least := Its.g2 h
  have hn : P.is_ ≠ P.ifr := Its.nid h (k := 2) (m := 3) rfl rfl (by decide)
  exact ⟨fun e => hn (by rw [← hs.2.1, ← hb.2, e]), fun e => hn (by rw [← hs.2.1, ← hb.2, e])⟩
theorem Q432.bel (h : Q432 w0 γ0 S R P la lc q s f w γ) (hb : Below w.heap.size w w') : Q432 w0 γ0 S R P la lc q s f w' γ := Its.below h hb
theorem Q432.drewN (h : Q432 w0 γ0 S R P la lc q s f w γ) (n : Nat) : Q432 w0 γ0 S R P la lc q s f (w.drewN n) γ := Its.drewN h n
theorem Q432.drew (h : Q432 w0 γ0 S R P la lc q s f w γ) : Q432 w0 γ0 S R P la lc q s f w.drew γ := Its.below h (Below.drew (Below.refl _ _))
theorem q4_may32 (h : Q432 w0 γ0 S R P la lc q s f w γ) (t : Int) : Calls Tryd.prog 132 #[.pointer (some ⟨P.g, 0, none⟩), .int .i64 t, .pointer (some ⟨P.fb, P.o, none⟩)] w fun e w' => e = .returned (.bool (mayP q t f)) ∧ ∃ m, w' = w.drewN m :=
  may_stamp32 w P.g P.fb P.o q f t (Its.g2 h : SeqNAt 165 48 .u32 w γ P.is_ P.g (fun n => csX P.p P.lg q la n lc) q la lc s.least).1.cell5 (Its.g2 h : SeqNAt 165 48 .u32 w γ P.is_ P.g (fun n => csX P.p P.lg q la n lc) q la lc s.least).1.cell4 h.reg.1
theorem q4_scan32 (h : Q432 w0 γ0 S R P la lc q s f w γ) (hf : s.b.Fit M32) (hlen : s.b.log.length ≤ 1000000) (hen : q.ends.length ≤ 1000000) (t : Int) : Calls Tryd.prog 37 #[.pointer (some ⟨P.p, 0, none⟩), .int .i64 t, .slice q.ea q.ends.length q.ec, .pointer (some ⟨P.fb, P.o, none⟩)] w
    fun e w' => e = .returned (.bool (scanP M32 s.b t q.ends f).1) ∧ ∃ γ', Q432 w0 γ0 S R P la lc q { s with b := (scanP M32 s.b t q.ends f).2.1 } (scanP M32 s.b t q.ends f).2.2 w' γ' := by
  have hne : P.ifr ≠ P.ib := Its.ne03 h
  exact (gscan32 (P.bf hne) w γ w γ s.b f (Its.bfAt h hne) hf hlen t q.ea q.ends q.ec _ h.ends hen).mono fun e w' hq => Its.bfEnd h hne hq
theorem q4_note32 (h : Q432 w0 γ0 S R P la lc q s f w γ) (hlen : s.ev.length ≤ 1000000) (a : Ev) : Calls Tryd.prog 127 #[.pointer (some ⟨P.lg, 0, none⟩), .agg #[.int .i64 a.kind, .int .i64 a.thread, .int .i64 a.op, .int .i64 a.n, .int .u64 a.pos, .int .i64 a.code, .slice none 0 0]] w
    fun e w' => e = .returned (.tuple #[]) ∧ ∃ γ', Q432 w0 γ0 S R P la lc q { s with ev := s.ev ++ [a] } f w' γ' := by
  have hl : LogAt 155 162 w γ P.il P.lg s.ev := Its.g1 h
  exact (evNote w γ P.il P.lg s.ev hl hlen a).mono fun e w' hq => Its.one1 h rfl hq
theorem q4_load32 (h : Q432 w0 γ0 S R P la lc q s f w γ) (hf : s.b.Fit M32) (hlen : s.b.log.length ≤ 1000000) (t k : Int) : Calls Tryd.prog 104 #[.pointer (some ⟨P.p, 0, none⟩), .int .i64 t, .int .i64 k] w
    fun e w' => e = .returned (.int .u32 (s.b.load t k).1) ∧ ∃ γ', Q432 w0 γ0 S R P la lc q { s with b := (s.b.load t k).2 } f w' γ' :=
  (bLoad32 w γ P.ib P.p s.b (Its.g0 h) hf.ok hlen t k).mono fun e w' hq => Its.mut0 h hq
theorem q4_store32 (h : Q432 w0 γ0 S R P la lc q s f w γ) (hf : s.b.Fit M32) (hlen : s.b.log.length ≤ 1000000) (t k v : Int) (hv : InM M32 v) : Calls Tryd.prog 31 #[.pointer (some ⟨P.p, 0, none⟩), .int .i64 t, .int .i64 k, .int .u32 v] w
    fun e w' => e = .returned (.tuple #[]) ∧ ∃ γ', Q432 w0 γ0 S R P la lc q { s with b := s.b.store t k v } f w' γ' :=
  (bStore32 w γ P.ib P.p s.b (Its.g0 h) hf.ok hlen t k v hv).mono fun e w' hq => Its.mut0 h hq
theorem q4_swap32 (h : Q432 w0 γ0 S R P la lc q s f w γ) (hf : s.b.Fit M32) (hlen : s.b.log.length ≤ 1000000) (t k old v : Int) (hv : InM M32 v) : Calls Tryd.prog 135 #[.pointer (some ⟨P.p, 0, none⟩), .int .i64 t, .int .i64 k, .int .u32 old, .int .u32 v] w
    fun e w' => e = .returned (.bool (s.b.swap t k old v).1) ∧ ∃ γ', Q432 w0 γ0 S R P la lc q { s with b := (s.b.swap t k old v).2 } f w' γ' :=
  (bSwap32 w γ P.ib P.p s.b (Its.g0 h) hf.ok hlen t k old v hv).mono fun e w' hq => Its.mut0 h hq
theorem q4_add32 (h : Q432 w0 γ0 S R P la lc q s f w γ) (hf : s.b.Fit M32) (hlen : s.b.log.length ≤ 1000000) (t k n : Int) : Calls Tryd.prog 140 #[.pointer (some ⟨P.p, 0, none⟩), .int .i64 t, .int .i64 k, .int .i64 n] w
    fun e w' => e = .returned (.int .u32 (s.b.add M32 t k n).1) ∧ ∃ γ', Q432 w0 γ0 S R P la lc q { s with b := (s.b.add M32 t k n).2 } f w' γ' :=
  (bAdd32 w γ P.ib P.p s.b (Its.g0 h) hf.ok hlen t k n).mono fun e w' hq => Its.mut0 h hq
theorem q4_read32 (h : Q432 w0 γ0 S R P la lc q s f w γ) (hf : s.b.Fit M32) (hlen : s.b.log.length ≤ 1000000) (t k : Int) : Calls Tryd.prog 148 #[.pointer (some ⟨P.p, 0, none⟩), .int .i64 t, .int .i64 k] w
    fun e w' => e = .returned (.int .u32 (s.b.read t k).1) ∧ ∃ γ', Q432 w0 γ0 S R P la lc q { s with b := (s.b.read t k).2 } f w' γ' :=
  (bRead32 w γ P.ib P.p s.b (Its.g0 h) hf.ok hlen t k).mono fun e w' hq => Its.mut0 h hq
theorem q4_write32 (h : Q432 w0 γ0 S R P la lc q s f w γ) (hf : s.b.Fit M32) (hlen : s.b.log.length ≤ 1000000) (t k v : Int) (hv : InM M32 v) : Calls Tryd.prog 150 #[.pointer (some ⟨P.p, 0, none⟩), .int .i64 t, .int .i64 k, .int .u32 v] w
    fun e w' => e = .returned (.tuple #[]) ∧ ∃ γ', Q432 w0 γ0 S R P la lc q { s with b := s.b.write t k v } f w' γ' :=
  (bWrite32 w γ P.ib P.p s.b (Its.g0 h) hf.ok hlen t k v hv).mono fun e w' hq => Its.mut0 h hq
theorem q4_mpublish32 (h : Q432 w0 γ0 S R P la lc q s f w γ) (hf : s.b.Fit M32) (hlen : s.b.log.length ≤ 1000000) (t : Int) (hn : f.n ≤ 9223372036854775807) : Calls Tryd.prog 142 #[.pointer (some ⟨P.p, 0, none⟩), .int .i64 t, .pointer (some ⟨P.fb, P.o, none⟩)] w
    fun e w' => e = .returned (.bool (publishP M32 s.b t f).1) ∧ ∃ γ', Q432 w0 γ0 S R P la lc q { s with b := (publishP M32 s.b t f).2.1 } (publishP M32 s.b t f).2.2 w' γ' := by
  have hne : P.ifr ≠ P.ib := Its.ne03 h
  exact (mpublish32 (P.bf hne) w γ w γ s.b f (Its.bfAt h hne) hf hlen t hn).mono fun e w' hq => Its.bfEnd h hne hq
theorem q4_mseek32 (h : Q432 w0 γ0 S R P la lc q s f w γ) (hf : s.b.Fit M32) (hlen : s.b.log.length ≤ 1000000) (t : Int) (hv : InM M32 f.val) : Calls Tryd.prog 143 #[.pointer (some ⟨P.p, 0, none⟩), .int .i64 t, .pointer (some ⟨P.fb, P.o, none⟩)] w
    fun e w' => e = .returned (.bool (seekP M32 s.b t f).1) ∧ ∃ γ', Q432 w0 γ0 S R P la lc q { s with b := (seekP M32 s.b t f).2.1 } (seekP M32 s.b t f).2.2 w' γ' := by
  have hne : P.ifr ≠ P.ib := Its.ne03 h
  exact (mseek32 (P.bf hne) w γ w γ s.b f (Its.bfAt h hne) hf hlen t hv).mono fun e w' hq => Its.bfEnd h hne hq
theorem q4_enter32 (h : Q432 w0 γ0 S R P la lc q s f w γ) (hf : s.b.Fit M32) (hlen : s.b.log.length ≤ 1000000) (t : Int) : Calls Tryd.prog 147 #[.pointer (some ⟨P.p, 0, none⟩), .int .i64 t, .pointer (some ⟨P.fb, P.o, none⟩)] w
    fun e w' => e = .returned (.bool (enterP M32 s.b t f.pc f.own).1) ∧ ∃ γ', Q432 w0 γ0 S R P la lc q (enter5 M32 t s f).2.1 (enter5 M32 t s f).2.2 w' γ' := by
  have hne : P.ifr ≠ P.ib := Its.ne03 h
  exact (fEnter32 (P.bf hne) w γ w γ s.b f (Its.bfAt h hne) hf.ok hlen t).mono fun e w' hq => Its.bfEnd h hne hq
theorem q4_leave32 (h : Q432 w0 γ0 S R P la lc q s f w γ) (hf : s.b.Fit M32) (hlen : s.b.log.length ≤ 1000000) (t : Int) : Calls Tryd.prog 189 #[.pointer (some ⟨P.p, 0, none⟩), .int .i64 t] w
    fun e w' => e = .returned (.tuple #[]) ∧ ∃ γ', Q432 w0 γ0 S R P la lc q { s with b := leaveP M32 s.b t } f w' γ' :=
  (tLeave32 w γ P.ib P.p s.b (Its.g0 h) hf.ok hlen t).mono fun e w' hq => Its.mut0 h hq
theorem Q432.setPc (h : Q432 w0 γ0 S R P la lc q s f w γ) (x : Int) : Q432 w0 γ0 S R P la lc q s { f with pc := x } (w.setCell ⟨P.fb, P.o + 3, none⟩ (.int .i64 x)) γ := Its.setPc h x
theorem Q432.setI (h : Q432 w0 γ0 S R P la lc q s f w γ) (x : Int) : Q432 w0 γ0 S R P la lc q s { f with i := x } (w.setCell ⟨P.fb, P.o + 4, none⟩ (.int .i64 x)) γ := Its.setI h x
theorem Q432.setJ (h : Q432 w0 γ0 S R P la lc q s f w γ) (x : Int) : Q432 w0 γ0 S R P la lc q s { f with j := x } (w.setCell ⟨P.fb, P.o + 5, none⟩ (.int .i64 x)) γ := Its.setJ h x
theorem Q432.setFrom (h : Q432 w0 γ0 S R P la lc q s f w γ) (x : Int) : Q432 w0 γ0 S R P la lc q s { f with from_ := x } (w.setCell ⟨P.fb, P.o + 6, none⟩ (.int .u32 x)) γ := Its.setFrom h x
theorem Q432.setVal (h : Q432 w0 γ0 S R P la lc q s f w γ) (x : Int) : Q432 w0 γ0 S R P la lc q s { f with val := x } (w.setCell ⟨P.fb, P.o + 8, none⟩ (.int .u32 x)) γ := Its.setVal h x
theorem Q432.setLst {lb : Nat} (h : Q432 w0 γ0 S R P (some ⟨lb, 0, none⟩) lc q s f w γ) (k : Nat) (x : Int) : Q432 w0 γ0 S R P (some ⟨lb, 0, none⟩) lc q (s.know k x) f (w.setCell ⟨lb, k, none⟩ (.int .u32 x)) γ := Its.setLst (by decide) (by decide) h k x
end
section
set_option maxRecDepth 100000
variable {w0 w w' : World} {γ0 γ : Nat → Nat} {S : Nat → Prop} {R : List It} {P : QP} {la : Option Addr} {lc : Nat} {q : SqC} {s : SqN} {f f' : FrS} {k : Nat}
theorem q4_stamp32 (h : Q432 w0 γ0 S R P la lc q s f w γ) (hcap : Cap2 q.c.cap) (hun : q.c.un ≤ 6) (pos : Int) (hp : InM M32 pos) :
    Calls Tryd.prog 136 #[.pointer (some ⟨P.g, 0, none⟩), .int .u32 pos] w fun e w' => e = .returned (.int .i64 (stampC q pos)) ∧ Q432 w0 γ0 S R P la lc q s f w' γ := by
  have hbd : (mkLay q.c).Bd := mkLay_bd hun hcap
  have hlm := fun W (hW : Below w.heap.size w W) => (lmark (mkLay q.c) hbd (slotI q.c.cap pos) W).mono (fun e w' hq => (show e = .returned (.int .i64 (stampC q pos)) ∧ Below w.heap.size w w' from ⟨hq.1, hW.trans (hq.2.mono hW.size)⟩))
  unfold Lay.vs at hlm
  rw [mkLay_c] at hlm
  have HLM := Lib.hid hlm
  have HLS := Lib.hid (fun W => lapslot32 q.c.cap pos hcap hp W)
  obtain ⟨g0, g1, g2, g3, g4, g5, g6, g7, g8, g9, g10, g11, g12, g13, g14, g15, g16, g17, hg⟩ := h.seq
  obtain ⟨r1, r3, r4, r6, r7, r8, r5, zr, hr⟩ := h.reg
  have H := Lib.hid h
  clear h hlm hbd hcap hun hp
  generalize stampC q pos = sc at *
  generalize slotI q.c.cap pos = sl at *
  go_enter Tryd.func136, Tryd.ntmps136
  go_wp2_with fail
  go_region_held3 (fun w' => w'.cell? ⟨P.g, 2, none⟩ = some (.int .i64 q.c.variant) ∧ w'.cell? ⟨P.g, 3, none⟩ = some (.int .i64 q.c.width) ∧ w'.cell? ⟨P.g, 4, none⟩ = some (.int .i64 q.c.cap) ∧ w'.cell? ⟨P.g, 5, none⟩ = some (.int .i64 q.c.producers) ∧ w'.cell? ⟨P.g, 6, none⟩ = some (.int .u64 q.c.start) ∧ w'.cell? ⟨P.g, 7, none⟩ = some (.slice q.c.ua q.c.un q.c.uc) ∧ w'.cell? ⟨P.g, 8, none⟩ = some (.int .i64 (mkLay q.c).cursor) ∧ w'.cell? ⟨P.g, 9, none⟩ = some (.int .i64 (mkLay q.c).claim) ∧ w'.cell? ⟨P.g, 10, none⟩ = some (.int .i64 (mkLay q.c).ticket) ∧ w'.cell? ⟨P.g, 11, none⟩ = some (.int .i64 (mkLay q.c).serving) ∧ w'.cell? ⟨P.g, 12, none⟩ = some (.int .i64 (mkLay q.c).next) ∧ w'.cell? ⟨P.g, 13, none⟩ = some (.int .i64 (mkLay q.c).marks) ∧ w'.cell? ⟨P.g, 14, none⟩ = some (.int .i64 (mkLay q.c).slots) ∧ w'.cell? ⟨P.g, 15, none⟩ = some (.int .i64 (mkLay q.c).cells)) (go_keep) (first
    | (go_at_call 183; refine (HLS.out _).mono ?_; rintro e w' ⟨rfl, rfl⟩)
    | (go_at_call 25; refine (HLM.out _ (by (repeat (with_reducible first | exact Below.refl _ _ | refine Below.drew ?_ | refine below_drewN ?_ _)))).mono ?_; rintro e w3 ⟨rfl, hb3⟩; have h3 := H.out.bel hb3; obtain ⟨g0k, g1k, g2k, g3k, g4k, g5k, g6k, g7k, g8k, g9k, g10k, g11k, g12k, g13k, g14k, g15k, g16k, g17k, hgk⟩ := h3.seq; obtain ⟨r1k, r3k, r4k, r6k, r7k, r8k, r5k, zrk, hrk⟩ := h3.reg; (try dsimp only at r1k r3k r4k r6k r7k r8k r5k); have H3 := Lib.hid h3; clear h3; clear hb3))
  go_wp2_with fail
  go_ret
  exact ⟨rfl, H3.out⟩
theorem q4_pos32 (h : Q432 w0 γ0 S R P la lc q s f w γ) : Calls Tryd.prog 137 #[.pointer (some ⟨P.g, 0, none⟩), .pointer (some ⟨P.fb, P.o, none⟩)] w fun e w' => e = .returned (.int .u32 (pos4 M32 f)) ∧ ∃ m, w' = w.drewN m := by
  obtain ⟨g0, g1, g2, g3, g4, g5, g6, g7, g8, g9, g10, g11, g12, g13, g14, g15, g16, g17, hg⟩ := h.seq
  obtain ⟨r1, r3, r4, r6, r7, r8, r5, zr, hr⟩ := h.reg
  unfold pos4
  clear h
  go_enter Tryd.func137, Tryd.ntmps137
  go_wp2_with fail
  go_quiet ((go_at_call 35; exact quiet_left (add32 _ _ _)))
  go_wp2_with fail
  go_ret
  exact ⟨rfl, _, rfl⟩
theorem q4_used32 (h : Q432 w0 γ0 S R P la lc q s f w γ) (hcap : Cap2 q.c.cap) : Calls Tryd.prog 138 #[.pointer (some ⟨P.g, 0, none⟩), .pointer (some ⟨P.fb, P.o, none⟩)] w fun e w' => e = .returned (.int .u32 (used4 M32 q f)) ∧ ∃ m, w' = w.drewN m := by
  obtain ⟨g0, g1, g2, g3, g4, g5, g6, g7, g8, g9, g10, g11, g12, g13, g14, g15, g16, g17, hg⟩ := h.seq
  obtain ⟨r1, r3, r4, r6, r7, r8, r5, zr, hr⟩ := h.reg
  have HP := Lib.hid (fun W (hW : Below w.heap.size w W) => q4_pos32 (h.bel hW))
  have hcb := hcap.bd
  have hwr : IntKind.i64.wrap (1 - q.c.cap) = 1 - q.c.cap := IntWalk.i64_in _ (by omega)
  unfold used4
  generalize pos4 M32 f = ps at *
  clear h hcap
  go_enter Tryd.func138, Tryd.ntmps138
  go_wp2_with fail
  go_quiet (first
    | (go_at_call 137; exact Calls.quiet_of (HP.out _ (by (repeat (with_reducible first | exact Below.refl _ _ | refine Below.drew ?_ | refine below_drewN ?_ _)))))
    | (go_at_call 35; exact quiet_left (add32 _ _ _)))
  go_wp2_with fail
  go_ret
  exact ⟨rfl, _, rfl⟩
theorem q4_passed32 (h : Q432 w0 γ0 S R P la lc q s f w γ) (hcap : Cap2 q.c.cap) (hk : k < s.least.length) : Calls Tryd.prog 182 #[.pointer (some ⟨P.g, 0, none⟩), .int .i64 k, .pointer (some ⟨P.fb, P.o, none⟩)] w fun e w' => e = .returned (.bool (passed4 M32 q s k f)) ∧ ∃ m, w' = w.drewN m := by
  obtain ⟨lb, rfl, hlb, lc0, lz0⟩ := h.row hk
  obtain ⟨ln1, ln2, ln3, ln4⟩ := h.rowne
  obtain ⟨g0, g1, g2, g3, g4, g5, g6, g7, g8, g9, g10, g11, g12, g13, g14, g15, g16, g17, hg⟩ := h.seq
  obtain ⟨r1, r3, r4, r6, r7, r8, r5, zr, hr⟩ := h.reg
  have HP := Lib.hid (fun W (hW : Below w.heap.size w W) => q4_pos32 (h.bel hW))
  have hcb := hcap.bd
  have hwr : IntKind.i64.wrap (-q.c.cap) = -q.c.cap := IntWalk.i64_in _ (by omega)
  have hkn : (k : Int) < s.least.length := by omega
  unfold passed4
  generalize pos4 M32 f = ps at *
  clear h hcap hk
  go_enter Tryd.func182, Tryd.ntmps182
  go_wp2_with fail
  go_quiet (first
    | (go_at_call 137; exact Calls.quiet_of (HP.out _ (by (repeat (with_reducible first | exact Below.refl _ _ | refine Below.drew ?_ | refine below_drewN ?_ _)))))
    | (go_at_call 35; exact quiet_left (add32 _ _ _))
    | (go_at_call 105; exact quiet_left (diff32 _ _ _)))
  go_wp2_with fail
  go_ret
  exact ⟨rfl, _, rfl⟩
theorem q4_free32 (h : Q432 w0 γ0 S R P la lc q s f w γ) (hcap : Cap2 q.c.cap) (hk : k < s.least.length) (other : Int) : Calls Tryd.prog 134 #[.pointer (some ⟨P.g, 0, none⟩), .int .i64 k, .pointer (some ⟨P.fb, P.o, none⟩), .int .i64 other] w fun e w' => e = .returned (.int .i64 (free4 M32 q s k f other)) ∧ ∃ m, w' = w.drewN m := by
  have hp := q4_passed32 h hcap hk
  unfold free4
  cases hd : passed4 M32 q s k f
  all_goals
    rw [hd] at hp
    have HP := Lib.hid hp
    clear hp hd h
    go_enter Tryd.func134, Tryd.ntmps134
    go_wp2_with (go_at_call 182; refine HP.out.mono ?_; rintro e w' ⟨rfl, m, rfl⟩)
    go_ret
    exact ⟨rfl, m, rfl⟩
end
section
set_option maxRecDepth 100000
variable {w0 w w' : World} {γ0 γ : Nat → Nat} {S : Nat → Prop} {R : List It} {P : QP} {la : Option Addr} {lc : Nat} {q : SqC} {s : SqN} {f f' : FrS} {k : Nat}
theorem q4_look32 (h : Q432 w0 γ0 S R P la lc q s f w γ) (hf : s.b.Fit M32) (hlen : s.b.log.length ≤ 1000000) (hcap : Cap2 q.c.cap) (hun : q.c.un ≤ 6) (hj : 0 ≤ f.j ∧ f.j ≤ 1000000) (hk : k < s.least.length) :
    Calls Tryd.prog 133 #[.pointer (some ⟨P.g, 0, none⟩), .int .i64 k, .pointer (some ⟨P.fb, P.o, none⟩)] w fun e w' => e = .returned (.int .i64 (look4 M32 q k s f).2.pc) ∧ ∃ γ', Q432 w0 γ0 S R P la lc q (look4 M32 q k s f).1 { (look4 M32 q k s f).2 with pc := f.pc } w' γ' := by
  have HLD := Lib.hid (fun W (hW : Q432 w0 γ0 S R P la lc q s f W γ) => q4_load32 hW hf hlen k (stampC q (pos4 M32 f)))
  have HCP := Lib.hid (And.intro hcap hun)
  have HPI := Lib.hid (addM_in32 f.from_ f.j : InM M32 (pos4 M32 f))
  obtain ⟨hne1, hne2⟩ := h.ne
  obtain ⟨g0, g1, g2, g3, g4, g5, g6, g7, g8, g9, g10, g11, g12, g13, g14, g15, g16, g17, hg⟩ := h.seq
  obtain ⟨r1, r3, r4, r6, r7, r8, r5, zr, hr⟩ := h.reg
  have H := Lib.hid h
  have HK := Lib.hid hk
  have hjw : wrap64 (f.j + 1) = f.j + 1 := wrap64_id (by omega)
  unfold look4
  generalize hld : s.b.load k (stampC q (pos4 M32 f)) = r at *
  obtain ⟨x, b2⟩ := r
  dsimp only at *
  clear h hf hlen hcap hun hk hld hj
  by_cases hx1 : x = pos4 M32 f
  · rw [if_pos hx1]
    have hxb : (x == pos4 M32 f) = true := by simp [hx1]
    by_cases hjn : f.j + 1 = f.n
    · rw [if_pos hjn]
      have hjb : (f.j + 1 == f.n) = true := by simp [hjn]
      clear hx1 hjn
      go_enter Tryd.func133, Tryd.ntmps133
      go_wp2_with fail
      go_region_held3 (fun w' => w'.cell? ⟨P.g, 0, none⟩ = some (.pointer (some ⟨P.p, 0, none⟩))) (go_keep) (first
        | (go_at_call 104; refine (HLD.out _ (HS.out.bel (by (repeat (with_reducible first | exact Below.refl _ _ | refine Below.drew ?_ | refine below_drewN ?_ _))))).mono ?_; rintro e w3 ⟨rfl, γ3, h3⟩; obtain ⟨g0k, g1k, g2k, g3k, g4k, g5k, g6k, g7k, g8k, g9k, g10k, g11k, g12k, g13k, g14k, g15k, g16k, g17k, hgk⟩ := h3.seq; obtain ⟨r1k, r3k, r4k, r6k, r7k, r8k, r5k, zrk, hrk⟩ := h3.reg; (try dsimp only at r1k r3k r4k r6k r7k r8k r5k); have H3 := Lib.hid h3; clear h3)
        | (go_at_call 136; refine (q4_stamp32 (H.out.bel (by (repeat (with_reducible first | exact Below.refl _ _ | refine Below.drew ?_ | refine below_drewN ?_ _)))) HCP.out.1 HCP.out.2 _ HPI.out).mono ?_; rintro e ws ⟨rfl, hs⟩; obtain ⟨g0s, g1s, g2s, g3s, g4s, g5s, g6s, g7s, g8s, g9s, g10s, g11s, g12s, g13s, g14s, g15s, g16s, g17s, hgs⟩ := hs.seq; obtain ⟨r1s, r3s, r4s, r6s, r7s, r8s, r5s, zrs, hrs⟩ := hs.reg; (try dsimp only at r1s r3s r4s r6s r7s r8s r5s); have HS := Lib.hid hs; clear hs)
        | (go_at_call 137; refine (q4_pos32 (H.out.bel (by (repeat (with_reducible first | exact Below.refl _ _ | refine Below.drew ?_ | refine below_drewN ?_ _))))).mono ?_; rintro e w' ⟨rfl, m, rfl⟩))
      go_wp2_with (go_at_call 137; refine (q4_pos32 H3.out).mono ?_; rintro e w' ⟨rfl, m2, rfl⟩)
      have hA := (H3.out.drewN m2).setJ (f.j + 1)
      generalize ((w3.drewN m2).setCell ⟨P.fb, P.o + 5, none⟩ (.int .i64 (f.j + 1))) = W2 at hA ⊢
      clear g0 g1 g2 g3 g4 g5 g6 g7 g8 g9 g10 g11 g12 g13 g14 g15 g16 g17 hg r1 r3 r4 r6 r7 r8 r5 zr hr
      clear g0k g1k g2k g3k g4k g5k g6k g7k g8k g9k g10k g11k g12k g13k g14k g15k g16k g17k hgk r1k r3k r4k r6k r7k r8k r5k zrk hrk
      clear g0s g1s g2s g3s g4s g5s g6s g7s g8s g9s g10s g11s g12s g13s g14s g15s g16s g17s hgs r1s r3s r4s r6s r7s r8s r5s zrs hrs
      obtain ⟨g0, g1, g2, g3, g4, g5, g6, g7, g8, g9, g10, g11, g12, g13, g14, g15, g16, g17, hg⟩ := hA.seq
      obtain ⟨r1, r3, r4, r6, r7, r8, r5, zr, hr⟩ := hA.reg
      try dsimp only at r1 r3 r4 r6 r7 r8 r5
      have HA := Lib.hid hA
      clear hA
      go_quiet (fail)
      go_wp2_with fail
      go_ret
      exact ⟨rfl, γ3, HA.out.drewN _⟩
    · rw [if_neg hjn]
      have hjb : (f.j + 1 == f.n) = false := by simp [hjn]
      clear hx1 hjn
      go_enter Tryd.func133, Tryd.ntmps133
      go_wp2_with fail
      go_region_held3 (fun w' => w'.cell? ⟨P.g, 0, none⟩ = some (.pointer (some ⟨P.p, 0, none⟩))) (go_keep) (first
        | (go_at_call 104; refine (HLD.out _ (HS.out.bel (by (repeat (with_reducible first | exact Below.refl _ _ | refine Below.drew ?_ | refine below_drewN ?_ _))))).mono ?_; rintro e w3 ⟨rfl, γ3, h3⟩; obtain ⟨g0k, g1k, g2k, g3k, g4k, g5k, g6k, g7k, g8k, g9k, g10k, g11k, g12k, g13k, g14k, g15k, g16k, g17k, hgk⟩ := h3.seq; obtain ⟨r1k, r3k, r4k, r6k, r7k, r8k, r5k, zrk, hrk⟩ := h3.reg; (try dsimp only at r1k r3k r4k r6k r7k r8k r5k); have H3 := Lib.hid h3; clear h3)
        | (go_at_call 136; refine (q4_stamp32 (H.out.bel (by (repeat (with_reducible first | exact Below.refl _ _ | refine Below.drew ?_ | refine below_drewN ?_ _)))) HCP.out.1 HCP.out.2 _ HPI.out).mono ?_; rintro e ws ⟨rfl, hs⟩; obtain ⟨g0s, g1s, g2s, g3s, g4s, g5s, g6s, g7s, g8s, g9s, g10s, g11s, g12s, g13s, g14s, g15s, g16s, g17s, hgs⟩ := hs.seq; obtain ⟨r1s, r3s, r4s, r6s, r7s, r8s, r5s, zrs, hrs⟩ := hs.reg; (try dsimp only at r1s r3s r4s r6s r7s r8s r5s); have HS := Lib.hid hs; clear hs)
        | (go_at_call 137; refine (q4_pos32 (H.out.bel (by (repeat (with_reducible first | exact Below.refl _ _ | refine Below.drew ?_ | refine below_drewN ?_ _))))).mono ?_; rintro e w' ⟨rfl, m, rfl⟩))
      go_wp2_with (go_at_call 137; refine (q4_pos32 H3.out).mono ?_; rintro e w' ⟨rfl, m2, rfl⟩)
      have hA := (H3.out.drewN m2).setJ (f.j + 1)
      generalize ((w3.drewN m2).setCell ⟨P.fb, P.o + 5, none⟩ (.int .i64 (f.j + 1))) = W2 at hA ⊢
      clear g0 g1 g2 g3 g4 g5 g6 g7 g8 g9 g10 g11 g12 g13 g14 g15 g16 g17 hg r1 r3 r4 r6 r7 r8 r5 zr hr
      clear g0k g1k g2k g3k g4k g5k g6k g7k g8k g9k g10k g11k g12k g13k g14k g15k g16k g17k hgk r1k r3k r4k r6k r7k r8k r5k zrk hrk
      clear g0s g1s g2s g3s g4s g5s g6s g7s g8s g9s g10s g11s g12s g13s g14s g15s g16s g17s hgs r1s r3s r4s r6s r7s r8s r5s zrs hrs
      obtain ⟨g0, g1, g2, g3, g4, g5, g6, g7, g8, g9, g10, g11, g12, g13, g14, g15, g16, g17, hg⟩ := hA.seq
      obtain ⟨r1, r3, r4, r6, r7, r8, r5, zr, hr⟩ := hA.reg
      try dsimp only at r1 r3 r4 r6 r7 r8 r5
      have HA := Lib.hid hA
      clear hA
      go_quiet (fail)
      go_wp2_with fail
      go_ret
      exact ⟨rfl, γ3, HA.out.drewN _⟩
  · rw [if_neg hx1]
    have hxb : (x == pos4 M32 f) = false := by simp [hx1]
    by_cases hx2 : x = used4 M32 q f
    · rw [if_pos hx2]
      have hyb : (x == used4 M32 q f) = true := by simp [hx2]
      clear hx1 hx2
      go_enter Tryd.func133, Tryd.ntmps133
      go_wp2_with fail
      go_region_held3 (fun w' => w'.cell? ⟨P.g, 0, none⟩ = some (.pointer (some ⟨P.p, 0, none⟩))) (go_keep) (first
        | (go_at_call 104; refine (HLD.out _ (HS.out.bel (by (repeat (with_reducible first | exact Below.refl _ _ | refine Below.drew ?_ | refine below_drewN ?_ _))))).mono ?_; rintro e w3 ⟨rfl, γ3, h3⟩; obtain ⟨g0k, g1k, g2k, g3k, g4k, g5k, g6k, g7k, g8k, g9k, g10k, g11k, g12k, g13k, g14k, g15k, g16k, g17k, hgk⟩ := h3.seq; obtain ⟨r1k, r3k, r4k, r6k, r7k, r8k, r5k, zrk, hrk⟩ := h3.reg; (try dsimp only at r1k r3k r4k r6k r7k r8k r5k); have H3 := Lib.hid h3; clear h3)
        | (go_at_call 136; refine (q4_stamp32 (H.out.bel (by (repeat (with_reducible first | exact Below.refl _ _ | refine Below.drew ?_ | refine below_drewN ?_ _)))) HCP.out.1 HCP.out.2 _ HPI.out).mono ?_; rintro e ws ⟨rfl, hs⟩; obtain ⟨g0s, g1s, g2s, g3s, g4s, g5s, g6s, g7s, g8s, g9s, g10s, g11s, g12s, g13s, g14s, g15s, g16s, g17s, hgs⟩ := hs.seq; obtain ⟨r1s, r3s, r4s, r6s, r7s, r8s, r5s, zrs, hrs⟩ := hs.reg; (try dsimp only at r1s r3s r4s r6s r7s r8s r5s); have HS := Lib.hid hs; clear hs)
        | (go_at_call 137; refine (q4_pos32 (H.out.bel (by (repeat (with_reducible first | exact Below.refl _ _ | refine Below.drew ?_ | refine below_drewN ?_ _))))).mono ?_; rintro e w' ⟨rfl, m, rfl⟩))
      go_wp2_with (first
        | (go_at_call 134; refine (q4_free32 ((H3.out.drewN (m2 + m3)).setI 0) HCP.out.1 HK.out 2).mono ?_; rintro e w' ⟨rfl, m4, rfl⟩)
        | (go_at_call 138; refine (q4_used32 (H3.out.drewN m2) HCP.out.1).mono ?_; rintro e w' ⟨rfl, m3, rfl⟩)
        | (go_at_call 137; refine (q4_pos32 H3.out).mono ?_; rintro e w' ⟨rfl, m2, rfl⟩))
      go_ret
      exact ⟨rfl, γ3, ((H3.out.drewN (m2 + m3)).setI 0).drewN m4⟩
    · rw [if_neg hx2]
      have hyb : (x == used4 M32 q f) = false := by simp [hx2]
      clear hx1 hx2
      go_enter Tryd.func133, Tryd.ntmps133
      go_wp2_with fail
      go_region_held3 (fun w' => w'.cell? ⟨P.g, 0, none⟩ = some (.pointer (some ⟨P.p, 0, none⟩))) (go_keep) (first
        | (go_at_call 104; refine (HLD.out _ (HS.out.bel (by (repeat (with_reducible first | exact Below.refl _ _ | refine Below.drew ?_ | refine below_drewN ?_ _))))).mono ?_; rintro e w3 ⟨rfl, γ3, h3⟩; obtain ⟨g0k, g1k, g2k, g3k, g4k, g5k, g6k, g7k, g8k, g9k, g10k, g11k, g12k, g13k, g14k, g15k, g16k, g17k, hgk⟩ := h3.seq; obtain ⟨r1k, r3k, r4k, r6k, r7k, r8k, r5k, zrk, hrk⟩ := h3.reg; (try dsimp only at r1k r3k r4k r6k r7k r8k r5k); have H3 := Lib.hid h3; clear h3)
        | (go_at_call 136; refine (q4_stamp32 (H.out.bel (by (repeat (with_reducible first | exact Below.refl _ _ | refine Below.drew ?_ | refine below_drewN ?_ _)))) HCP.out.1 HCP.out.2 _ HPI.out).mono ?_; rintro e ws ⟨rfl, hs⟩; obtain ⟨g0s, g1s, g2s, g3s, g4s, g5s, g6s, g7s, g8s, g9s, g10s, g11s, g12s, g13s, g14s, g15s, g16s, g17s, hgs⟩ := hs.seq; obtain ⟨r1s, r3s, r4s, r6s, r7s, r8s, r5s, zrs, hrs⟩ := hs.reg; (try dsimp only at r1s r3s r4s r6s r7s r8s r5s); have HS := Lib.hid hs; clear hs)
        | (go_at_call 137; refine (q4_pos32 (H.out.bel (by (repeat (with_reducible first | exact Below.refl _ _ | refine Below.drew ?_ | refine below_drewN ?_ _))))).mono ?_; rintro e w' ⟨rfl, m, rfl⟩))
      go_wp2_with (first
        | (go_at_call 138; refine (q4_used32 (H3.out.drewN m2) HCP.out.1).mono ?_; rintro e w' ⟨rfl, m3, rfl⟩)
        | (go_at_call 137; refine (q4_pos32 H3.out).mono ?_; rintro e w' ⟨rfl, m2, rfl⟩))
      go_ret
      exact ⟨rfl, γ3, H3.out.drewN (m2 + m3)⟩
end
section
set_option maxRecDepth 100000
variable {w0 w w' : World} {γ0 γ : Nat → Nat} {S : Nat → Prop} {R : List It} {P : QP} {la : Option Addr} {lc : Nat} {q : SqC} {s : SqN} {f f' : FrS} {k : Nat}
theorem q4_claimN32 (h : Q432 w0 γ0 S R P la lc q s f w γ) (t : Int) (hm : mayP q t f = false) :
    Calls Tryd.prog 59 #[.pointer (some ⟨P.g, 0, none⟩), .int .i64 t, .pointer (some ⟨P.fb, P.o, none⟩)] w (Q4End32 w0 γ0 S R P la lc q (true, s, f)) := by
  have H := Lib.hid h
  have HM := Lib.hid hm
  clear h hm
  go_enter Tryd.func59, Tryd.ntmps59
  go_wp2_with fail
  go_step3
  go_wp2_with (go_at_call 132; refine (q4_may32 H.out _).mono ?_; rintro e w' ⟨rfl, m, rfl⟩; rw [HM.out])
  try rw [Exit.noGoto_ret]
  go_ret
  exact ⟨rfl, γ, H.out.drewN m⟩
theorem q4_claimL32 (h : Q432 w0 γ0 S R P la lc q s f w γ) (hf : s.b.Fit M32) (hlen : s.b.log.length ≤ 1000000) (hcap : Cap2 q.c.cap) (hun : q.c.un ≤ 6) (hj : 0 ≤ f.j ∧ f.j ≤ 1000000) (hk : k < s.least.length) (hm : mayP q k f = true) (hp : f.pc = 1) :
    Calls Tryd.prog 59 #[.pointer (some ⟨P.g, 0, none⟩), .int .i64 k, .pointer (some ⟨P.fb, P.o, none⟩)] w (Q4End32 w0 γ0 S R P la lc q (false, (look4 M32 q k s f).1, (look4 M32 q k s f).2)) := by
  have HLK := Lib.hid (fun W (hW : Q432 w0 γ0 S R P la lc q s f W γ) => q4_look32 hW hf hlen hcap hun hj hk)
  obtain ⟨g0, g1, g2, g3, g4, g5, g6, g7, g8, g9, g10, g11, g12, g13, g14, g15, g16, g17, hg⟩ := h.seq
  obtain ⟨r1, r3, r4, r6, r7, r8, r5, zr, hr⟩ := h.reg
  have H := Lib.hid h
  have HM := Lib.hid hm
  have hb1 : (f.pc == 1) = true := by simp [hp]
  have hpc : (look4 M32 q k s f).2 = { { (look4 M32 q k s f).2 with pc := f.pc } with pc := (look4 M32 q k s f).2.pc } := rfl
  rw [hpc]
  clear hpc
  generalize look4 M32 q k s f = r at *
  obtain ⟨s2, f2⟩ := r
  dsimp only at *
  clear h hm hf hlen hcap hun hk hj hp
  go_enter Tryd.func59, Tryd.ntmps59
  go_wp2_with fail
  go_step3
  go_wp2_with (first
    | (go_at_call 132; refine (q4_may32 H.out _).mono ?_; rintro e w' ⟨rfl, m, rfl⟩; rw [HM.out])
    | (go_at_call 133; refine (HLK.out _ (H.out.bel (by (repeat (with_reducible first | exact Below.refl _ _ | refine Below.drew ?_ | refine below_drewN ?_ _))))).mono ?_; rintro e w3 ⟨rfl, γ3, h3⟩; obtain ⟨g0k, g1k, g2k, g3k, g4k, g5k, g6k, g7k, g8k, g9k, g10k, g11k, g12k, g13k, g14k, g15k, g16k, g17k, hgk⟩ := h3.seq; obtain ⟨r1k, r3k, r4k, r6k, r7k, r8k, r5k, zrk, hrk⟩ := h3.reg; (try dsimp only at r1k r3k r4k r6k r7k r8k r5k); have H3 := Lib.hid h3; clear h3))
  try rw [Exit.noGoto_ret]
  go_ret
  exact ⟨rfl, γ3, H3.out.setPc f2.pc⟩
theorem q4_claimB32 (h : Q432 w0 γ0 S R P la lc q s f w γ) (hf : s.b.Fit M32) (hlen : s.b.log.length ≤ 1000000) (hel : s.ev.length ≤ 999998) (hen : q.ends.length ≤ 1000000) (hk : k < s.least.length) (hm : mayP q k f = true) (hp : f.pc ≠ 1 ∧ f.pc ≠ 2 ∧ f.pc ≠ 3 ∧ f.pc ≠ 4) :
    Calls Tryd.prog 59 #[.pointer (some ⟨P.g, 0, none⟩), .int .i64 k, .pointer (some ⟨P.fb, P.o, none⟩)] w (Q4End32 w0 γ0 S R P la lc q (begin4 M32 q k s f)) := by
  have HLD := Lib.hid (fun W (hW : Q432 w0 γ0 S R P la lc q s f W γ) => q4_load32 hW hf hlen k (mkLay q.c).claim)
  have hb1 : (f.pc == 1) = false := by simp [hp.1]
  have hb2 : (f.pc == 2) = false := by simp [hp.2.1]
  have hb3 : (f.pc == 3) = false := by simp [hp.2.2.1]
  have hb4 : (f.pc == 4) = false := by simp [hp.2.2.2]
  obtain ⟨hne1, hne2⟩ := h.ne
  obtain ⟨lb, rfl, hlb, lc0, lz0⟩ := h.row hk
  obtain ⟨ln1, ln2, ln3, ln4⟩ := h.rowne
  obtain ⟨g0, g1, g2, g3, g4, g5, g6, g7, g8, g9, g10, g11, g12, g13, g14, g15, g16, g17, hg⟩ := h.seq
  obtain ⟨r1, r3, r4, r6, r7, r8, r5, zr, hr⟩ := h.reg
  have H := Lib.hid h
  have HM := Lib.hid hm
  have HK := Lib.hid hk
  have hkn : (k : Int) < s.least.length := by omega
  unfold begin4
  generalize s.b.load k (mkLay q.c).claim = r at *
  obtain ⟨x, b2⟩ := r
  dsimp only at *
  clear h hm hf hlen hel hen hp hk
  go_enter Tryd.func59, Tryd.ntmps59
  go_wp2_with fail
  go_step3
  go_wp2_with (go_at_call 132; refine (q4_may32 H.out _).mono ?_; rintro e w' ⟨rfl, m, rfl⟩; rw [HM.out])
  have hG := H.out.drewN m
  generalize w.drewN m = W1 at hG ⊢
  clear g0 g1 g2 g3 g4 g5 g6 g7 g8 g9 g10 g11 g12 g13 g14 g15 g16 g17 hg r1 r3 r4 r6 r7 r8 r5 zr hr
  clear lc0 lz0 hlb
  obtain ⟨g0, g1, g2, g3, g4, g5, g6, g7, g8, g9, g10, g11, g12, g13, g14, g15, g16, g17, hg⟩ := hG.seq
  obtain ⟨r1, r3, r4, r6, r7, r8, r5, zr, hr⟩ := hG.reg
  try dsimp only at r1 r3 r4 r6 r7 r8 r5
  have HSC := Lib.hid (fun W (hW : Below W1.heap.size W1 W) => HLD.out W (hG.bel hW))
  clear hG
  go_region_held3 (fun w' => w'.cell? ⟨P.g, 0, none⟩ = some (.pointer (some ⟨P.p, 0, none⟩)) ∧ w'.cell? ⟨P.g, 9, none⟩ = some (.int .i64 (mkLay q.c).claim)) (go_keep) (first
    | (go_at_call 104; refine (HSC.out _ (by repeat (with_reducible first | exact Below.refl _ _ | refine Below.drew ?_ | refine below_drewN ?_ _))).mono ?_; rintro e w3 ⟨rfl, γ3, h3⟩; obtain ⟨g0k, g1k, g2k, g3k, g4k, g5k, g6k, g7k, g8k, g9k, g10k, g11k, g12k, g13k, g14k, g15k, g16k, g17k, hgk⟩ := h3.seq; obtain ⟨r1k, r3k, r4k, r6k, r7k, r8k, r5k, zrk, hrk⟩ := h3.reg; (try dsimp only at r1k r3k r4k r6k r7k r8k r5k); have H3 := Lib.hid h3; clear h3))

  go_wp2_with fail
  try rw [Exit.noGoto_ret]
  go_ret
  exact ⟨rfl, γ3, ((H3.out.setFrom x).setJ 0).setPc 1⟩
theorem q4_claimS32 (h : Q432 w0 γ0 S R P la lc q s f w γ) (hf : s.b.Fit M32) (hlen : s.b.log.length ≤ 1000000) (hel : s.ev.length ≤ 999998) (hen : q.ends.length ≤ 1000000) (hcap : Cap2 q.c.cap) (hun : q.c.un ≤ 6) (hk : k < s.least.length) (hm : mayP q k f = true) (hp : f.pc = 2) :
    Calls Tryd.prog 59 #[.pointer (some ⟨P.g, 0, none⟩), .int .i64 k, .pointer (some ⟨P.fb, P.o, none⟩)] w (Q4End32 w0 γ0 S R P la lc q (scan4 M32 q k s f)) := by
  have hs0 := fun W (hW : Q432 w0 γ0 S R P la lc q s f W γ) => q4_scan32 hW hf hlen hen k
  have HCP := Lib.hid (And.intro hcap hun)
  have hb1 : (f.pc == 1) = false := by simp [hp]
  have hb2 : (f.pc == 2) = true := by simp [hp]
  obtain ⟨hne1, hne2⟩ := h.ne
  obtain ⟨lb, rfl, hlb, lc0, lz0⟩ := h.row hk
  obtain ⟨ln1, ln2, ln3, ln4⟩ := h.rowne
  obtain ⟨g0, g1, g2, g3, g4, g5, g6, g7, g8, g9, g10, g11, g12, g13, g14, g15, g16, g17, hg⟩ := h.seq
  obtain ⟨r1, r3, r4, r6, r7, r8, r5, zr, hr⟩ := h.reg
  have H := Lib.hid h
  have HM := Lib.hid hm
  have HK := Lib.hid hk
  have hkn : (k : Int) < s.least.length := by omega
  unfold scan4 SqN.scan
  generalize scanP M32 s.b k q.ends f = r at *
  obtain ⟨d, b2, f2⟩ := r
  dsimp only at *
  have HS0 := Lib.hid hs0
  clear h hm hf hlen hel hen hp hk hs0 hcap hun
  cases d
  · simp only [if_pos rfl]
    go_enter Tryd.func59, Tryd.ntmps59
    go_wp2_with fail
    refine wp_scope_once 0 rfl ?_
    go_wp2_with (go_at_call 132; refine (q4_may32 H.out _).mono ?_; rintro e w' ⟨rfl, m, rfl⟩; rw [HM.out])
    go_step3
    try simp only [Exit.then, Exit.inBlock]
    refine ⟨rfl, ?_⟩
    go_wp2_with fail
    try go_step3
    go_wp2_with fail
    have hG := H.out.drewN m
    generalize w.drewN m = W1 at hG ⊢
    clear g0 g1 g2 g3 g4 g5 g6 g7 g8 g9 g10 g11 g12 g13 g14 g15 g16 g17 hg r1 r3 r4 r6 r7 r8 r5 zr hr
    clear lc0 lz0 hlb
    obtain ⟨g0, g1, g2, g3, g4, g5, g6, g7, g8, g9, g10, g11, g12, g13, g14, g15, g16, g17, hg⟩ := hG.seq
    obtain ⟨r1, r3, r4, r6, r7, r8, r5, zr, hr⟩ := hG.reg
    try dsimp only at r1 r3 r4 r6 r7 r8 r5
    have HSC := Lib.hid (fun W (hW : Below W1.heap.size W1 W) => HS0.out W (hG.bel hW))
    clear hG
    go_region_held3 (fun w' => w'.cell? ⟨P.g, 0, none⟩ = some (.pointer (some ⟨P.p, 0, none⟩)) ∧ w'.cell? ⟨P.g, 16, none⟩ = some (.slice q.ea q.ends.length q.ec)) (go_keep) (first
      | (go_at_call 37; refine (HSC.out _ (by repeat (with_reducible first | exact Below.refl _ _ | refine Below.drew ?_ | refine below_drewN ?_ _))).mono ?_; rintro e w3 ⟨rfl, γ3, h3⟩; obtain ⟨g0k, g1k, g2k, g3k, g4k, g5k, g6k, g7k, g8k, g9k, g10k, g11k, g12k, g13k, g14k, g15k, g16k, g17k, hgk⟩ := h3.seq; obtain ⟨r1k, r3k, r4k, r6k, r7k, r8k, r5k, zrk, hrk⟩ := h3.reg; (try dsimp only at r1k r3k r4k r6k r7k r8k r5k); have H3 := Lib.hid h3; clear h3))
    go_wp2_with fail
    try rw [Exit.noGoto_ret]
    go_ret
    exact ⟨rfl, γ3, H3.out⟩
  · simp only [Bool.true_eq_false, if_false]
    go_enter Tryd.func59, Tryd.ntmps59
    go_wp2_with fail
    refine wp_scope_once 0 rfl ?_
    go_wp2_with (go_at_call 132; refine (q4_may32 H.out _).mono ?_; rintro e w' ⟨rfl, m, rfl⟩; rw [HM.out])
    go_step3
    try simp only [Exit.then, Exit.inBlock]
    refine ⟨rfl, ?_⟩
    go_wp2_with fail
    try go_step3
    go_wp2_with fail
    have hG := H.out.drewN m
    generalize w.drewN m = W1 at hG ⊢
    clear g0 g1 g2 g3 g4 g5 g6 g7 g8 g9 g10 g11 g12 g13 g14 g15 g16 g17 hg r1 r3 r4 r6 r7 r8 r5 zr hr
    clear lc0 lz0 hlb
    obtain ⟨g0, g1, g2, g3, g4, g5, g6, g7, g8, g9, g10, g11, g12, g13, g14, g15, g16, g17, hg⟩ := hG.seq
    obtain ⟨r1, r3, r4, r6, r7, r8, r5, zr, hr⟩ := hG.reg
    try dsimp only at r1 r3 r4 r6 r7 r8 r5
    have HSC := Lib.hid (fun W (hW : Below W1.heap.size W1 W) => HS0.out W (hG.bel hW))
    clear hG
    go_region_held3 (fun w' => w'.cell? ⟨P.g, 0, none⟩ = some (.pointer (some ⟨P.p, 0, none⟩)) ∧ w'.cell? ⟨P.g, 16, none⟩ = some (.slice q.ea q.ends.length q.ec)) (go_keep) (first
      | (go_at_call 37; refine (HSC.out _ (by repeat (with_reducible first | exact Below.refl _ _ | refine Below.drew ?_ | refine below_drewN ?_ _))).mono ?_; rintro e w3 ⟨rfl, γ3, h3⟩; obtain ⟨g0k, g1k, g2k, g3k, g4k, g5k, g6k, g7k, g8k, g9k, g10k, g11k, g12k, g13k, g14k, g15k, g16k, g17k, hgk⟩ := h3.seq; obtain ⟨r1k, r3k, r4k, r6k, r7k, r8k, r5k, zrk, hrk⟩ := h3.reg; (try dsimp only at r1k r3k r4k r6k r7k r8k r5k); have H3 := Lib.hid h3; clear h3))
    go_wp2_with fail
    obtain ⟨lb', he, hlb, lc0, lz0⟩ := H3.out.row HK.out
    cases he
    clear g0 g1 g2 g3 g4 g5 g6 g7 g8 g9 g10 g11 g12 g13 g14 g15 g16 g17 hg r1 r3 r4 r6 r7 r8 r5 zr hr
    go_region_held3 (fun w' => w'.cell? ⟨P.g, 17, none⟩ = some (.slice (some ⟨lb, 0, none⟩) s.least.length lc) ∧ w'.cell? ⟨P.fb, P.o + 7, none⟩ = some (.int .u32 f2.min)) (go_keep) (first
      | fail)
    have hA := (H3.out.setLst k f2.min).drew
    generalize (w3.setCell ⟨lb, k, none⟩ (.int .u32 f2.min)).drew = W2 at hA ⊢
    clear g0k g1k g2k g3k g4k g5k g6k g7k g8k g9k g10k g11k g12k g13k g14k g15k g16k g17k hgk r1k r3k r4k r6k r7k r8k r5k zrk hrk
    clear lc0 lz0 hlb
    obtain ⟨g0, g1, g2, g3, g4, g5, g6, g7, g8, g9, g10, g11, g12, g13, g14, g15, g16, g17, hg⟩ := hA.seq
    obtain ⟨r1, r3, r4, r6, r7, r8, r5, zr, hr⟩ := hA.reg
    have hk2 : k < (s.least.set k f2.min).length := by rw [List.length_set]; exact HK.out
    have HA := Lib.hid hA
    have HK2 := Lib.hid hk2
    clear hA hk2
    go_wp2_with (go_at_call 134; refine (q4_free32 HA.out HCP.out.1 HK2.out 0).mono ?_; rintro e w' ⟨rfl, m2, rfl⟩)
    try rw [Exit.noGoto_ret]
    go_ret
    exact ⟨rfl, γ3, (HA.out.drewN m2).setPc _⟩
theorem q4_claimF32 (h : Q432 w0 γ0 S R P la lc q s f w γ) (hf : s.b.Fit M32) (hlen : s.b.log.length ≤ 1000000) (hel : s.ev.length ≤ 999998) (hen : q.ends.length ≤ 1000000) (hcap : Cap2 q.c.cap) (hun : q.c.un ≤ 6) (hk : k < s.least.length) (hm : mayP q k f = true) (hp : f.pc = 3) :
    Calls Tryd.prog 59 #[.pointer (some ⟨P.g, 0, none⟩), .int .i64 k, .pointer (some ⟨P.fb, P.o, none⟩)] w (Q4End32 w0 γ0 S R P la lc q (freed4 M32 q k s f)) := by
  have HSW := Lib.hid (fun W (hW : Q432 w0 γ0 S R P la lc q s f W γ) => q4_swap32 hW hf hlen k (stampC q (pos4 M32 f)) (used4 M32 q f) (pos4 M32 f) (addM_in32 _ _))
  have HCP := Lib.hid (And.intro hcap hun)
  have HPI := Lib.hid (addM_in32 f.from_ f.j : InM M32 (pos4 M32 f))
  have hb1 : (f.pc == 1) = false := by simp [hp]
  have hb2 : (f.pc == 2) = false := by simp [hp]
  have hb3 : (f.pc == 3) = true := by simp [hp]
  obtain ⟨hne1, hne2⟩ := h.ne
  obtain ⟨lb, rfl, hlb, lc0, lz0⟩ := h.row hk
  obtain ⟨ln1, ln2, ln3, ln4⟩ := h.rowne
  obtain ⟨g0, g1, g2, g3, g4, g5, g6, g7, g8, g9, g10, g11, g12, g13, g14, g15, g16, g17, hg⟩ := h.seq
  obtain ⟨r1, r3, r4, r6, r7, r8, r5, zr, hr⟩ := h.reg
  have H := Lib.hid h
  have HM := Lib.hid hm
  have HK := Lib.hid hk
  have hkn : (k : Int) < s.least.length := by omega
  unfold freed4
  generalize s.b.swap k (stampC q (pos4 M32 f)) (used4 M32 q f) (pos4 M32 f) = r at *
  obtain ⟨d, b2⟩ := r
  dsimp only at *
  clear h hm hf hlen hel hen hp hk hcap hun
  go_enter Tryd.func59, Tryd.ntmps59
  go_wp2_with fail
  refine wp_scope_once 1 rfl ?_
  go_wp2_with (go_at_call 132; refine (q4_may32 H.out _).mono ?_; rintro e w' ⟨rfl, m, rfl⟩; rw [HM.out])
  go_step3
  try simp only [Exit.then, Exit.inBlock]
  refine ⟨rfl, ?_⟩
  go_wp2_with fail
  try go_step3
  go_wp2_with fail
  have hG := H.out.drewN m
  generalize w.drewN m = W1 at hG ⊢
  clear g0 g1 g2 g3 g4 g5 g6 g7 g8 g9 g10 g11 g12 g13 g14 g15 g16 g17 hg r1 r3 r4 r6 r7 r8 r5 zr hr
  clear lc0 lz0 hlb
  obtain ⟨g0, g1, g2, g3, g4, g5, g6, g7, g8, g9, g10, g11, g12, g13, g14, g15, g16, g17, hg⟩ := hG.seq
  obtain ⟨r1, r3, r4, r6, r7, r8, r5, zr, hr⟩ := hG.reg
  try dsimp only at r1 r3 r4 r6 r7 r8 r5
  have HG := Lib.hid hG
  clear hG
  go_region_held3 (fun w' => w'.cell? ⟨P.g, 0, none⟩ = some (.pointer (some ⟨P.p, 0, none⟩))) (go_keep) (first
    | (go_at_call 135; refine (HSW.out _ (HS.out.bel (by (repeat (with_reducible first | exact Below.refl _ _ | refine Below.drew ?_ | refine below_drewN ?_ _))))).mono ?_; rintro e w3 ⟨rfl, γ3, h3⟩; obtain ⟨g0k, g1k, g2k, g3k, g4k, g5k, g6k, g7k, g8k, g9k, g10k, g11k, g12k, g13k, g14k, g15k, g16k, g17k, hgk⟩ := h3.seq; obtain ⟨r1k, r3k, r4k, r6k, r7k, r8k, r5k, zrk, hrk⟩ := h3.reg; (try dsimp only at r1k r3k r4k r6k r7k r8k r5k); have H3 := Lib.hid h3; clear h3)
    | (go_at_call 137; refine (q4_pos32 (HS.out.bel (by (repeat (with_reducible first | exact Below.refl _ _ | refine Below.drew ?_ | refine below_drewN ?_ _))))).mono ?_; rintro e w' ⟨rfl, m, rfl⟩)
    | (go_at_call 138; refine (q4_used32 (HS.out.bel (by (repeat (with_reducible first | exact Below.refl _ _ | refine Below.drew ?_ | refine below_drewN ?_ _)))) HCP.out.1).mono ?_; rintro e w' ⟨rfl, m, rfl⟩)
    | (go_at_call 136; refine (q4_stamp32 (HG.out.bel (by (repeat (with_reducible first | exact Below.refl _ _ | refine Below.drew ?_ | refine below_drewN ?_ _)))) HCP.out.1 HCP.out.2 _ HPI.out).mono ?_; rintro e ws ⟨rfl, hs⟩; obtain ⟨g0s, g1s, g2s, g3s, g4s, g5s, g6s, g7s, g8s, g9s, g10s, g11s, g12s, g13s, g14s, g15s, g16s, g17s, hgs⟩ := hs.seq; obtain ⟨r1s, r3s, r4s, r6s, r7s, r8s, r5s, zrs, hrs⟩ := hs.reg; (try dsimp only at r1s r3s r4s r6s r7s r8s r5s); have HS := Lib.hid hs; clear hs)
    | (go_at_call 137; refine (q4_pos32 (HG.out.bel (by (repeat (with_reducible first | exact Below.refl _ _ | refine Below.drew ?_ | refine below_drewN ?_ _))))).mono ?_; rintro e w' ⟨rfl, m, rfl⟩))
  go_wp2_with fail
  try rw [Exit.noGoto_ret]
  go_ret
  exact ⟨rfl, γ3, H3.out.setPc 1⟩
theorem q4_claimW32 (h : Q432 w0 γ0 S R P la lc q s f w γ) (hf : s.b.Fit M32) (hlen : s.b.log.length ≤ 1000000) (hel : s.ev.length ≤ 999998) (hen : q.ends.length ≤ 1000000) (hfi : InM M32 f.from_) (hk : k < s.least.length) (hm : mayP q k f = true) (hp : f.pc = 4) :
    Calls Tryd.prog 59 #[.pointer (some ⟨P.g, 0, none⟩), .int .i64 k, .pointer (some ⟨P.fb, P.o, none⟩)] w (Q4End32 w0 γ0 S R P la lc q (swap4 M32 q k s f)) := by
  have HSW := Lib.hid (fun W (hW : Q432 w0 γ0 S R P la lc q s { f with pc := 0 } W γ) => q4_swap32 hW hf hlen k (mkLay q.c).claim f.from_ (addM M32 f.from_ f.n) (addM_in32 _ _))
  have HUF := Lib.hid hfi
  have hb1 : (f.pc == 1) = false := by simp [hp]
  have hb2 : (f.pc == 2) = false := by simp [hp]
  have hb3 : (f.pc == 3) = false := by simp [hp]
  have hb4 : (f.pc == 4) = true := by simp [hp]
  have HE1 := Lib.hid (show s.ev.length ≤ 1000000 by omega)
  have HE2 := Lib.hid (fun a : Ev => show (s.ev ++ [a]).length ≤ 1000000 by rw [List.length_append, List.length_singleton]; omega)
  obtain ⟨hne1, hne2⟩ := h.ne
  obtain ⟨lb, rfl, hlb, lc0, lz0⟩ := h.row hk
  obtain ⟨ln1, ln2, ln3, ln4⟩ := h.rowne
  obtain ⟨g0, g1, g2, g3, g4, g5, g6, g7, g8, g9, g10, g11, g12, g13, g14, g15, g16, g17, hg⟩ := h.seq
  obtain ⟨r1, r3, r4, r6, r7, r8, r5, zr, hr⟩ := h.reg
  have H := Lib.hid h
  have HM := Lib.hid hm
  have HK := Lib.hid hk
  have hkn : (k : Int) < s.least.length := by omega
  unfold swap4
  generalize s.b.swap k (mkLay q.c).claim f.from_ (addM M32 f.from_ f.n) = r at *
  obtain ⟨d, b2⟩ := r
  dsimp only at *
  clear h hm hf hlen hel hen hp hk hfi
  cases d
  · simp only [if_pos rfl]
    go_enter Tryd.func59, Tryd.ntmps59
    go_wp2_with fail
    refine wp_scope_once 2 rfl ?_
    go_wp2_with (go_at_call 132; refine (q4_may32 H.out _).mono ?_; rintro e w' ⟨rfl, m, rfl⟩; rw [HM.out])
    go_step3
    try simp only [Exit.then, Exit.inBlock]
    refine ⟨rfl, ?_⟩
    go_wp2_with fail
    try go_step3
    go_wp2_with fail
    have hG := (H.out.drewN m).setPc 0
    generalize (w.drewN m).setCell ⟨P.fb, P.o + 3, none⟩ (.int .i64 0) = W1 at hG ⊢
    clear g0 g1 g2 g3 g4 g5 g6 g7 g8 g9 g10 g11 g12 g13 g14 g15 g16 g17 hg r1 r3 r4 r6 r7 r8 r5 zr hr
    clear lc0 lz0 hlb
    obtain ⟨g0, g1, g2, g3, g4, g5, g6, g7, g8, g9, g10, g11, g12, g13, g14, g15, g16, g17, hg⟩ := hG.seq
    obtain ⟨r1, r3, r4, r6, r7, r8, r5, zr, hr⟩ := hG.reg
    try dsimp only at r1 r3 r4 r6 r7 r8 r5
    have HSC := Lib.hid (fun W (hW : Below W1.heap.size W1 W) => HSW.out W (hG.bel hW))
    clear hG
    go_region_held3 (fun w' => w'.cell? ⟨P.g, 0, none⟩ = some (.pointer (some ⟨P.p, 0, none⟩)) ∧ w'.cell? ⟨P.g, 9, none⟩ = some (.int .i64 (mkLay q.c).claim) ∧ w'.cell? ⟨P.fb, P.o + 1, none⟩ = some (.int .i64 f.n) ∧ w'.cell? ⟨P.fb, P.o + 6, none⟩ = some (.int .u32 f.from_)) (go_keep) (first
      | (go_at_call 35; refine (add32 _ _ _).mono ?_; rintro e w' ⟨rfl, rfl⟩)
      | (go_at_call 135; refine (HSC.out _ (by repeat (with_reducible first | exact Below.refl _ _ | refine Below.drew ?_ | refine below_drewN ?_ _))).mono ?_; rintro e w3 ⟨rfl, γ3, h3⟩; obtain ⟨g0k, g1k, g2k, g3k, g4k, g5k, g6k, g7k, g8k, g9k, g10k, g11k, g12k, g13k, g14k, g15k, g16k, g17k, hgk⟩ := h3.seq; obtain ⟨r1k, r3k, r4k, r6k, r7k, r8k, r5k, zrk, hrk⟩ := h3.reg; (try dsimp only at r1k r3k r4k r6k r7k r8k r5k); have H3 := Lib.hid h3; clear h3))
    go_wp2_with fail
    try rw [Exit.noGoto_ret]
    go_ret
    exact ⟨rfl, γ3, H3.out⟩
  · simp only [Bool.true_eq_false, if_false]
    go_enter Tryd.func59, Tryd.ntmps59
    go_wp2_with fail
    refine wp_scope_once 2 rfl ?_
    go_wp2_with (go_at_call 132; refine (q4_may32 H.out _).mono ?_; rintro e w' ⟨rfl, m, rfl⟩; rw [HM.out])
    go_step3
    try simp only [Exit.then, Exit.inBlock]
    refine ⟨rfl, ?_⟩
    go_wp2_with fail
    try go_step3
    go_wp2_with fail
    have hG := (H.out.drewN m).setPc 0
    generalize (w.drewN m).setCell ⟨P.fb, P.o + 3, none⟩ (.int .i64 0) = W1 at hG ⊢
    clear g0 g1 g2 g3 g4 g5 g6 g7 g8 g9 g10 g11 g12 g13 g14 g15 g16 g17 hg r1 r3 r4 r6 r7 r8 r5 zr hr
    clear lc0 lz0 hlb
    obtain ⟨g0, g1, g2, g3, g4, g5, g6, g7, g8, g9, g10, g11, g12, g13, g14, g15, g16, g17, hg⟩ := hG.seq
    obtain ⟨r1, r3, r4, r6, r7, r8, r5, zr, hr⟩ := hG.reg
    try dsimp only at r1 r3 r4 r6 r7 r8 r5
    have HSC := Lib.hid (fun W (hW : Below W1.heap.size W1 W) => HSW.out W (hG.bel hW))
    clear hG
    go_region_held3 (fun w' => w'.cell? ⟨P.g, 0, none⟩ = some (.pointer (some ⟨P.p, 0, none⟩)) ∧ w'.cell? ⟨P.g, 9, none⟩ = some (.int .i64 (mkLay q.c).claim) ∧ w'.cell? ⟨P.fb, P.o + 1, none⟩ = some (.int .i64 f.n) ∧ w'.cell? ⟨P.fb, P.o + 6, none⟩ = some (.int .u32 f.from_)) (go_keep) (first
      | (go_at_call 35; refine (add32 _ _ _).mono ?_; rintro e w' ⟨rfl, rfl⟩)
      | (go_at_call 135; refine (HSC.out _ (by repeat (with_reducible first | exact Below.refl _ _ | refine Below.drew ?_ | refine below_drewN ?_ _))).mono ?_; rintro e w3 ⟨rfl, γ3, h3⟩; obtain ⟨g0k, g1k, g2k, g3k, g4k, g5k, g6k, g7k, g8k, g9k, g10k, g11k, g12k, g13k, g14k, g15k, g16k, g17k, hgk⟩ := h3.seq; obtain ⟨r1k, r3k, r4k, r6k, r7k, r8k, r5k, zrk, hrk⟩ := h3.reg; (try dsimp only at r1k r3k r4k r6k r7k r8k r5k); have H3 := Lib.hid h3; clear h3))
    go_wp2_with fail
    clear g0 g1 g2 g3 g4 g5 g6 g7 g8 g9 g10 g11 g12 g13 g14 g15 g16 g17 hg r1 r3 r4 r6 r7 r8 r5 zr hr
    have HNT := Lib.hid (fun W (hW : Below w3.heap.size w3 W) => q4_note32 (H3.out.bel hW) HE1.out ⟨3, k, 0, f.n, f.from_, 0⟩)
    go_region_held3 (fun w' => w'.cell? ⟨P.g, 1, none⟩ = some (.pointer (some ⟨P.lg, 0, none⟩)) ∧ w'.cell? ⟨P.fb, P.o + 1, none⟩ = some (.int .i64 f.n) ∧ w'.cell? ⟨P.fb, P.o + 6, none⟩ = some (.int .u32 f.from_)) (go_keep) (first
      | (go_at_call 103; refine (up32 _ HUF.out _).mono ?_; rintro e w' ⟨rfl, rfl⟩)
      | (go_at_call 127; refine (HNT.out _ (by repeat (with_reducible first | exact Below.refl _ _ | refine Below.drew ?_ | refine below_drewN ?_ _))).mono ?_; rintro e w5 ⟨rfl, γ5, h5⟩; obtain ⟨g0n, g1n, g2n, g3n, g4n, g5n, g6n, g7n, g8n, g9n, g10n, g11n, g12n, g13n, g14n, g15n, g16n, g17n, hgn⟩ := h5.seq; obtain ⟨r1n, r3n, r4n, r6n, r7n, r8n, r5n, zrn, hrn⟩ := h5.reg; (try dsimp only at r1n r3n r4n r6n r7n r8n r5n); have H5 := Lib.hid h5; clear h5))
    go_wp2_with (go_at_call 127; refine (q4_note32 H5.out (HE2.out _) ⟨4, k, 0, 0, 0, 0⟩).mono ?_; rintro e w6 ⟨rfl, γ6, h6⟩; have H6 := Lib.hid h6; clear h6)
    try rw [Exit.noGoto_ret]
    go_ret
    exact ⟨rfl, γ6, H6.out⟩
theorem q4_claim32 (h : Q432 w0 γ0 S R P la lc q s f w γ) (hf : s.b.Fit M32) (hlen : s.b.log.length ≤ 1000000) (hel : s.ev.length ≤ 999998) (hen : q.ends.length ≤ 1000000) (hcap : q.c.cap ≤ 64) (hfi : InM M32 f.from_) (hj : 0 ≤ f.j ∧ f.j ≤ 1000000) (hl : (s.least.length : Int) = q.c.producers) (hbl : s.b.l.c = q.c) (t : Int) :
    Calls Tryd.prog 59 #[.pointer (some ⟨P.g, 0, none⟩), .int .i64 t, .pointer (some ⟨P.fb, P.o, none⟩)] w (Q4End32 w0 γ0 S R P la lc q (claim4 M32 q t s f)) := by
  unfold claim4
  cases hm : mayP q t f
  · rw [if_pos rfl]; exact q4_claimN32 h t hm
  · rw [if_neg (by decide)]
    have hb := (of_decide_eq_true hm : 0 ≤ t ∧ t < q.c.producers ∧ 1 ≤ f.n ∧ f.n ≤ q.c.cap)
    obtain ⟨k, rfl⟩ := Int.eq_ofNat_of_zero_le hb.1
    have hk : k < s.least.length := by omega
    have hcc : Cap2 q.c.cap := by rw [← hbl]; exact hf.cap
    have hun : q.c.un ≤ 6 := by rw [← hbl]; exact hf.un.2
    by_cases h1 : f.pc = 1
    · rw [if_pos h1]; exact q4_claimL32 h hf hlen hcc hun hj hk hm h1
    · rw [if_neg h1]
      by_cases h2 : f.pc = 2
      · rw [if_pos h2]; exact q4_claimS32 h hf hlen hel hen hcc hun hk hm h2
      · rw [if_neg h2]
        by_cases h3 : f.pc = 3
        · rw [if_pos h3]; exact q4_claimF32 h hf hlen hel hen hcc hun hk hm h3
        · rw [if_neg h3]
          by_cases h4 : f.pc = 4
          · rw [if_pos h4]; exact q4_claimW32 h hf hlen hel hen hfi hk hm h4
          · rw [if_neg h4]; exact q4_claimB32 h hf hlen hel hen hk hm ⟨h1, h2, h3, h4⟩
end
section
set_option maxRecDepth 100000
variable {w0 w w' : World} {γ0 γ : Nat → Nat} {S : Nat → Prop} {R : List It} {P : QP} {la : Option Addr} {lc : Nat} {q : SqC} {s : SqN} {f f' : FrS} {k : Nat}
theorem q4_publish32 (h : Q432 w0 γ0 S R P la lc q s f w γ) (hf : s.b.Fit M32) (hlen : s.b.log.length ≤ 1000000) (hel : s.ev.length ≤ 999998) (hen : q.ends.length ≤ 1000000) (hcap : q.c.cap ≤ 64) (hfi : InM M32 f.from_) (hi : 0 ≤ f.i ∧ f.i ≤ 1000000) (hbl : s.b.l.c = q.c) (t : Int) :
    Calls Tryd.prog 60 #[.pointer (some ⟨P.g, 0, none⟩), .int .i64 t, .pointer (some ⟨P.fb, P.o, none⟩)] w (Q4End32 w0 γ0 S R P la lc q (publish4 M32 q t s f)) := by
  unfold publish4
  obtain ⟨hne1, hne2⟩ := h.ne
  obtain ⟨g0, g1, g2, g3, g4, g5, g6, g7, g8, g9, g10, g11, g12, g13, g14, g15, g16, g17, hg⟩ := h.seq
  obtain ⟨r1, r3, r4, r6, r7, r8, r5, zr, hr⟩ := h.reg
  have H := Lib.hid h
  cases hm : mayP q t f
  · rw [if_pos rfl]
    have HM := Lib.hid hm
    clear h hm
    go_enter Tryd.func60, Tryd.ntmps60
    go_wp2_with (go_at_call 132; refine (q4_may32 H.out _).mono ?_; rintro e w' ⟨rfl, m, rfl⟩; rw [HM.out])
    go_ret
    exact ⟨rfl, γ, H.out.drewN m⟩
  · rw [if_neg (by decide)]
    have HM := Lib.hid hm
    have HCP := Lib.hid (And.intro (show Cap2 q.c.cap by rw [← hbl]; exact hf.cap) (show q.c.un ≤ 6 by rw [← hbl]; exact hf.un.2))
    have hni : InM M32 (addM M32 f.from_ f.i) := addM_in32 _ _
    have HNI := Lib.hid hni
    have HST := Lib.hid (fun W (hW : Q432 w0 γ0 S R P la lc q s f W γ) => q4_store32 hW hf hlen t (stampC q (addM M32 f.from_ f.i)) (addM M32 (addM M32 f.from_ f.i) 1) (addM_in32 _ _))
    have HE1 := Lib.hid (show s.ev.length ≤ 1000000 by omega)
    have hiw : wrap64 (f.i + 1) = f.i + 1 := wrap64_id (by omega)
    clear hni
    generalize hps : addM M32 f.from_ f.i = ps at *
    have HPS := Lib.hid hps
    by_cases hlt : f.i + 1 < f.n
    · rw [if_pos hlt]
      have hlb : decide (f.i + 1 < f.n) = true := decide_eq_true hlt
      clear h hm hel hf hlen hen hfi hcap hbl hi hlt
      go_enter Tryd.func60, Tryd.ntmps60
      go_wp2_with (go_at_call 132; refine (q4_may32 H.out _).mono ?_; rintro e w' ⟨rfl, m, rfl⟩; rw [HM.out])
      have hG := H.out.drewN m
      generalize w.drewN m = W1 at hG ⊢
      clear g0 g1 g2 g3 g4 g5 g6 g7 g8 g9 g10 g11 g12 g13 g14 g15 g16 g17 hg r1 r3 r4 r6 r7 r8 r5 zr hr
      obtain ⟨g0, g1, g2, g3, g4, g5, g6, g7, g8, g9, g10, g11, g12, g13, g14, g15, g16, g17, hg⟩ := hG.seq
      obtain ⟨r1, r3, r4, r6, r7, r8, r5, zr, hr⟩ := hG.reg
      have HG := Lib.hid hG
      clear hG
      go_quiet ((go_at_call 35; exact quiet_left (add32 _ _ _)))
      go_wp2_with fail
      go_region_held3 (fun w' => w'.cell? ⟨P.g, 0, none⟩ = some (.pointer (some ⟨P.p, 0, none⟩))) (go_keep) (first
        | (go_at_call 31; refine (HST.out _ (HS.out.bel (by (repeat (with_reducible first | exact Below.refl _ _ | refine Below.drew ?_ | refine below_drewN ?_ _))))).mono ?_; rintro e w3 ⟨rfl, γ3, h3⟩; obtain ⟨g0k, g1k, g2k, g3k, g4k, g5k, g6k, g7k, g8k, g9k, g10k, g11k, g12k, g13k, g14k, g15k, g16k, g17k, hgk⟩ := h3.seq; obtain ⟨r1k, r3k, r4k, r6k, r7k, r8k, r5k, zrk, hrk⟩ := h3.reg; (try dsimp only at r1k r3k r4k r6k r7k r8k r5k); have H3 := Lib.hid h3; clear h3)
        | (go_at_call 35; refine (add32 _ _ _).mono ?_; rintro e w' ⟨rfl, rfl⟩)
        | (go_at_call 136; refine (q4_stamp32 (HG.out.bel (by (repeat (with_reducible first | exact Below.refl _ _ | refine Below.drew ?_ | refine below_drewN ?_ _)))) HCP.out.1 HCP.out.2 _ HNI.out).mono ?_; rintro e ws ⟨rfl, hs⟩; obtain ⟨g0s, g1s, g2s, g3s, g4s, g5s, g6s, g7s, g8s, g9s, g10s, g11s, g12s, g13s, g14s, g15s, g16s, g17s, hgs⟩ := hs.seq; obtain ⟨r1s, r3s, r4s, r6s, r7s, r8s, r5s, zrs, hrs⟩ := hs.reg; (try dsimp only at r1s r3s r4s r6s r7s r8s r5s); have HS := Lib.hid hs; clear hs))
      go_wp2_with fail
      have HNT := Lib.hid (fun W (hW : Below w3.heap.size w3 W) => q4_note32 (H3.out.bel hW) HE1.out ⟨5, t, 0, 1, ps, 0⟩)
      clear g0 g1 g2 g3 g4 g5 g6 g7 g8 g9 g10 g11 g12 g13 g14 g15 g16 g17 hg r1 r3 r4 r6 r7 r8 r5 zr hr
      clear g0s g1s g2s g3s g4s g5s g6s g7s g8s g9s g10s g11s g12s g13s g14s g15s g16s g17s hgs r1s r3s r4s r6s r7s r8s r5s zrs hrs
      go_region_held3 (fun w' => w'.cell? ⟨P.g, 1, none⟩ = some (.pointer (some ⟨P.lg, 0, none⟩))) (go_keep) (first
        | (go_at_call 103; refine (up32 _ HNI.out _).mono ?_; rintro e w' ⟨rfl, rfl⟩)
        | (go_at_call 127; refine (HNT.out _ (by repeat (with_reducible first | exact Below.refl _ _ | refine Below.drew ?_ | refine below_drewN ?_ _))).mono ?_; rintro e w5 ⟨rfl, γ5, h5⟩; obtain ⟨g0n, g1n, g2n, g3n, g4n, g5n, g6n, g7n, g8n, g9n, g10n, g11n, g12n, g13n, g14n, g15n, g16n, g17n, hgn⟩ := h5.seq; obtain ⟨r1n, r3n, r4n, r6n, r7n, r8n, r5n, zrn, hrn⟩ := h5.reg; (try dsimp only at r1n r3n r4n r6n r7n r8n r5n); have H5 := Lib.hid h5; clear h5))
      go_wp2_with fail
      have hA := H5.out.setI (f.i + 1)
      generalize w5.setCell ⟨P.fb, P.o + 4, none⟩ (.int .i64 (f.i + 1)) = W5 at hA ⊢
      clear g0k g1k g2k g3k g4k g5k g6k g7k g8k g9k g10k g11k g12k g13k g14k g15k g16k g17k hgk r1k r3k r4k r6k r7k r8k r5k zrk hrk
      clear g0n g1n g2n g3n g4n g5n g6n g7n g8n g9n g10n g11n g12n g13n g14n g15n g16n g17n hgn r1n r3n r4n r6n r7n r8n r5n zrn hrn
      obtain ⟨g0, g1, g2, g3, g4, g5, g6, g7, g8, g9, g10, g11, g12, g13, g14, g15, g16, g17, hg⟩ := hA.seq
      obtain ⟨r1, r3, r4, r6, r7, r8, r5, zr, hr⟩ := hA.reg
      try dsimp only at r1 r3 r4 r6 r7 r8 r5
      have HA := Lib.hid hA
      clear hA
      go_quiet (fail)
      go_wp2_with fail
      go_ret
      exact ⟨rfl, γ5, HA.out.drewN _⟩
    · rw [if_neg hlt]
      have hlb : decide (f.i + 1 < f.n) = false := decide_eq_false hlt
      clear h hm hel hf hlen hen hfi hcap hbl hi hlt
      go_enter Tryd.func60, Tryd.ntmps60
      go_wp2_with (go_at_call 132; refine (q4_may32 H.out _).mono ?_; rintro e w' ⟨rfl, m, rfl⟩; rw [HM.out])
      have hG := H.out.drewN m
      generalize w.drewN m = W1 at hG ⊢
      clear g0 g1 g2 g3 g4 g5 g6 g7 g8 g9 g10 g11 g12 g13 g14 g15 g16 g17 hg r1 r3 r4 r6 r7 r8 r5 zr hr
      obtain ⟨g0, g1, g2, g3, g4, g5, g6, g7, g8, g9, g10, g11, g12, g13, g14, g15, g16, g17, hg⟩ := hG.seq
      obtain ⟨r1, r3, r4, r6, r7, r8, r5, zr, hr⟩ := hG.reg
      have HG := Lib.hid hG
      clear hG
      go_quiet ((go_at_call 35; exact quiet_left (add32 _ _ _)))
      go_wp2_with fail
      go_region_held3 (fun w' => w'.cell? ⟨P.g, 0, none⟩ = some (.pointer (some ⟨P.p, 0, none⟩))) (go_keep) (first
        | (go_at_call 31; refine (HST.out _ (HS.out.bel (by (repeat (with_reducible first | exact Below.refl _ _ | refine Below.drew ?_ | refine below_drewN ?_ _))))).mono ?_; rintro e w3 ⟨rfl, γ3, h3⟩; obtain ⟨g0k, g1k, g2k, g3k, g4k, g5k, g6k, g7k, g8k, g9k, g10k, g11k, g12k, g13k, g14k, g15k, g16k, g17k, hgk⟩ := h3.seq; obtain ⟨r1k, r3k, r4k, r6k, r7k, r8k, r5k, zrk, hrk⟩ := h3.reg; (try dsimp only at r1k r3k r4k r6k r7k r8k r5k); have H3 := Lib.hid h3; clear h3)
        | (go_at_call 35; refine (add32 _ _ _).mono ?_; rintro e w' ⟨rfl, rfl⟩)
        | (go_at_call 136; refine (q4_stamp32 (HG.out.bel (by (repeat (with_reducible first | exact Below.refl _ _ | refine Below.drew ?_ | refine below_drewN ?_ _)))) HCP.out.1 HCP.out.2 _ HNI.out).mono ?_; rintro e ws ⟨rfl, hs⟩; obtain ⟨g0s, g1s, g2s, g3s, g4s, g5s, g6s, g7s, g8s, g9s, g10s, g11s, g12s, g13s, g14s, g15s, g16s, g17s, hgs⟩ := hs.seq; obtain ⟨r1s, r3s, r4s, r6s, r7s, r8s, r5s, zrs, hrs⟩ := hs.reg; (try dsimp only at r1s r3s r4s r6s r7s r8s r5s); have HS := Lib.hid hs; clear hs))
      go_wp2_with fail
      have HNT := Lib.hid (fun W (hW : Below w3.heap.size w3 W) => q4_note32 (H3.out.bel hW) HE1.out ⟨5, t, 0, 1, ps, 0⟩)
      clear g0 g1 g2 g3 g4 g5 g6 g7 g8 g9 g10 g11 g12 g13 g14 g15 g16 g17 hg r1 r3 r4 r6 r7 r8 r5 zr hr
      clear g0s g1s g2s g3s g4s g5s g6s g7s g8s g9s g10s g11s g12s g13s g14s g15s g16s g17s hgs r1s r3s r4s r6s r7s r8s r5s zrs hrs
      go_region_held3 (fun w' => w'.cell? ⟨P.g, 1, none⟩ = some (.pointer (some ⟨P.lg, 0, none⟩))) (go_keep) (first
        | (go_at_call 103; refine (up32 _ HNI.out _).mono ?_; rintro e w' ⟨rfl, rfl⟩)
        | (go_at_call 127; refine (HNT.out _ (by repeat (with_reducible first | exact Below.refl _ _ | refine Below.drew ?_ | refine below_drewN ?_ _))).mono ?_; rintro e w5 ⟨rfl, γ5, h5⟩; obtain ⟨g0n, g1n, g2n, g3n, g4n, g5n, g6n, g7n, g8n, g9n, g10n, g11n, g12n, g13n, g14n, g15n, g16n, g17n, hgn⟩ := h5.seq; obtain ⟨r1n, r3n, r4n, r6n, r7n, r8n, r5n, zrn, hrn⟩ := h5.reg; (try dsimp only at r1n r3n r4n r6n r7n r8n r5n); have H5 := Lib.hid h5; clear h5))
      go_wp2_with fail
      have hA := H5.out.setI (f.i + 1)
      generalize w5.setCell ⟨P.fb, P.o + 4, none⟩ (.int .i64 (f.i + 1)) = W5 at hA ⊢
      clear g0k g1k g2k g3k g4k g5k g6k g7k g8k g9k g10k g11k g12k g13k g14k g15k g16k g17k hgk r1k r3k r4k r6k r7k r8k r5k zrk hrk
      clear g0n g1n g2n g3n g4n g5n g6n g7n g8n g9n g10n g11n g12n g13n g14n g15n g16n g17n hgn r1n r3n r4n r6n r7n r8n r5n zrn hrn
      obtain ⟨g0, g1, g2, g3, g4, g5, g6, g7, g8, g9, g10, g11, g12, g13, g14, g15, g16, g17, hg⟩ := hA.seq
      obtain ⟨r1, r3, r4, r6, r7, r8, r5, zr, hr⟩ := hA.reg
      try dsimp only at r1 r3 r4 r6 r7 r8 r5
      have HA := Lib.hid hA
      clear hA
      go_quiet (fail)
      go_wp2_with fail
      go_ret
      exact ⟨rfl, γ5, (HA.out.drewN _).setI 0⟩
end
section
set_option maxRecDepth 100000
variable {w0 w w' : World} {γ0 γ : Nat → Nat} {S : Nat → Prop} {R : List It} {P : QP} {la : Option Addr} {lc : Nat} {q : SqC} {s : SqN} {f f' : FrS} {k : Nat}
theorem q4_tip32 (h : Q432 w0 γ0 S R P la lc q s f w γ) (hf : s.b.Fit M32) (hlen : s.b.log.length ≤ 1000000) (hbl : s.b.l.c = q.c) (hv : InM M32 f.val) (t : Int) :
    Calls Tryd.prog 61 #[.pointer (some ⟨P.g, 0, none⟩), .int .i64 t, .pointer (some ⟨P.fb, P.o, none⟩)] w (Q4End32 w0 γ0 S R P la lc q (tip4 M32 q t s f)) := by
  unfold tip4
  obtain ⟨hne1, hne2⟩ := h.ne
  obtain ⟨g0, g1, g2, g3, g4, g5, g6, g7, g8, g9, g10, g11, g12, g13, g14, g15, g16, g17, hg⟩ := h.seq
  obtain ⟨r1, r3, r4, r6, r7, r8, r5, zr, hr⟩ := h.reg
  have H := Lib.hid h
  have HLD := Lib.hid (fun W (hW : Q432 w0 γ0 S R P la lc q s f W γ) => q4_load32 hW hf hlen t (stampC q f.val))
  have HCP := Lib.hid (And.intro (show Cap2 q.c.cap by rw [← hbl]; exact hf.cap) (show q.c.un ≤ 6 by rw [← hbl]; exact hf.un.2))
  have HVI := Lib.hid hv
  generalize hld : s.b.load t (stampC q f.val) = r at *
  obtain ⟨x, b2⟩ := r
  dsimp only at *
  clear h hf hlen hbl hv hld
  by_cases hx : x = addM M32 f.val 1
  · rw [if_pos hx]
    have hxb : (x != addM M32 f.val 1) = false := by simp [hx]
    clear hx
    go_enter Tryd.func61, Tryd.ntmps61
    go_wp2_with fail
    go_region_held3 (fun w' => w'.cell? ⟨P.g, 0, none⟩ = some (.pointer (some ⟨P.p, 0, none⟩)) ∧ w'.cell? ⟨P.fb, P.o + 8, none⟩ = some (.int .u32 f.val)) (go_keep) (first
      | (go_at_call 104; refine (HLD.out _ (HS.out.bel (by (repeat (with_reducible first | exact Below.refl _ _ | refine Below.drew ?_ | refine below_drewN ?_ _))))).mono ?_; rintro e w3 ⟨rfl, γ3, h3⟩; obtain ⟨g0k, g1k, g2k, g3k, g4k, g5k, g6k, g7k, g8k, g9k, g10k, g11k, g12k, g13k, g14k, g15k, g16k, g17k, hgk⟩ := h3.seq; obtain ⟨r1k, r3k, r4k, r6k, r7k, r8k, r5k, zrk, hrk⟩ := h3.reg; (try dsimp only at r1k r3k r4k r6k r7k r8k r5k); have H3 := Lib.hid h3; clear h3)
      | (go_at_call 136; refine (q4_stamp32 (H.out.bel (by (repeat (with_reducible first | exact Below.refl _ _ | refine Below.drew ?_ | refine below_drewN ?_ _)))) HCP.out.1 HCP.out.2 _ HVI.out).mono ?_; rintro e ws ⟨rfl, hs⟩; obtain ⟨g0s, g1s, g2s, g3s, g4s, g5s, g6s, g7s, g8s, g9s, g10s, g11s, g12s, g13s, g14s, g15s, g16s, g17s, hgs⟩ := hs.seq; obtain ⟨r1s, r3s, r4s, r6s, r7s, r8s, r5s, zrs, hrs⟩ := hs.reg; (try dsimp only at r1s r3s r4s r6s r7s r8s r5s); have HS := Lib.hid hs; clear hs)
      | (go_at_call 35; refine (add32 _ _ _).mono ?_; rintro e w' ⟨rfl, rfl⟩))
    go_wp2_with (go_at_call 35; refine (add32 _ _ _).mono ?_; rintro e w' ⟨rfl, rfl⟩)
    go_ret
    exact ⟨rfl, γ3, H3.out.setVal _⟩
  · rw [if_neg hx]
    have hxb : (x != addM M32 f.val 1) = true := by simp [hx]
    clear hx
    go_enter Tryd.func61, Tryd.ntmps61
    go_wp2_with fail
    go_region_held3 (fun w' => w'.cell? ⟨P.g, 0, none⟩ = some (.pointer (some ⟨P.p, 0, none⟩)) ∧ w'.cell? ⟨P.fb, P.o + 8, none⟩ = some (.int .u32 f.val)) (go_keep) (first
      | (go_at_call 104; refine (HLD.out _ (HS.out.bel (by (repeat (with_reducible first | exact Below.refl _ _ | refine Below.drew ?_ | refine below_drewN ?_ _))))).mono ?_; rintro e w3 ⟨rfl, γ3, h3⟩; obtain ⟨g0k, g1k, g2k, g3k, g4k, g5k, g6k, g7k, g8k, g9k, g10k, g11k, g12k, g13k, g14k, g15k, g16k, g17k, hgk⟩ := h3.seq; obtain ⟨r1k, r3k, r4k, r6k, r7k, r8k, r5k, zrk, hrk⟩ := h3.reg; (try dsimp only at r1k r3k r4k r6k r7k r8k r5k); have H3 := Lib.hid h3; clear h3)
      | (go_at_call 136; refine (q4_stamp32 (H.out.bel (by (repeat (with_reducible first | exact Below.refl _ _ | refine Below.drew ?_ | refine below_drewN ?_ _)))) HCP.out.1 HCP.out.2 _ HVI.out).mono ?_; rintro e ws ⟨rfl, hs⟩; obtain ⟨g0s, g1s, g2s, g3s, g4s, g5s, g6s, g7s, g8s, g9s, g10s, g11s, g12s, g13s, g14s, g15s, g16s, g17s, hgs⟩ := hs.seq; obtain ⟨r1s, r3s, r4s, r6s, r7s, r8s, r5s, zrs, hrs⟩ := hs.reg; (try dsimp only at r1s r3s r4s r6s r7s r8s r5s); have HS := Lib.hid hs; clear hs)
      | (go_at_call 35; refine (add32 _ _ _).mono ?_; rintro e w' ⟨rfl, rfl⟩))
    go_wp2_with fail
    go_ret
    exact ⟨rfl, γ3, H3.out⟩
end
section
variable {w0 w w' : World} {γ0 γ : Nat → Nat} {S : Nat → Prop} {R : List It} {P : QP} {la : Option Addr} {lc : Nat} {q : SqC} {s : SqN} {f f' : FrS} {n : Nat}
theorem q4s_claim32 (h : Q432 w0 γ0 S R P la lc q s f w γ) (hs : StN M32 q n s) (hn : n ≤ 400000) (hr : FOk M32 f) (t : Int) : Calls Tryd.prog 59 #[.pointer (some ⟨P.g, 0, none⟩), .int .i64 t, .pointer (some ⟨P.fb, P.o, none⟩)] w (Q4End32 w0 γ0 S R P la lc q (claim4 M32 q t s f)) :=
  q4_claim32 h hs.fit (by have := hs.log; omega) (by have := hs.ev; omega) (by have := hs.ends; omega) (by rw [← hs.conf]; exact hs.fit.cap.bd.2) hr.from_ hr.j hs.len hs.conf t
theorem q4s_publish32 (h : Q432 w0 γ0 S R P la lc q s f w γ) (hs : StN M32 q n s) (hn : n ≤ 400000) (hr : FOk M32 f) (t : Int) : Calls Tryd.prog 60 #[.pointer (some ⟨P.g, 0, none⟩), .int .i64 t, .pointer (some ⟨P.fb, P.o, none⟩)] w (Q4End32 w0 γ0 S R P la lc q (publish4 M32 q t s f)) :=
  q4_publish32 h hs.fit (by have := hs.log; omega) (by have := hs.ev; omega) (by have := hs.ends; omega) (by rw [← hs.conf]; exact hs.fit.cap.bd.2) hr.from_ hr.i hs.conf t
theorem q4s_tip32 (h : Q432 w0 γ0 S R P la lc q s f w γ) (hs : StN M32 q n s) (hn : n ≤ 400000) (hr : FOk M32 f) (t : Int) : Calls Tryd.prog 61 #[.pointer (some ⟨P.g, 0, none⟩), .int .i64 t, .pointer (some ⟨P.fb, P.o, none⟩)] w (Q4End32 w0 γ0 S R P la lc q (tip4 M32 q t s f)) :=
  q4_tip32 h hs.fit (by have := hs.log; omega) hs.conf hr.val t
end
theorem q4_claimNil32 (gv fv : Option Addr) (hn : gv = none ∨ fv = none) (t : Int) (w : World) :
    Calls Tryd.prog 59 #[.pointer gv, .int .i64 t, .pointer fv] w fun e w' => e = .returned (.bool true) ∧ ∃ m, w' = w.drewN m := by
  go_enter Tryd.func59, Tryd.ntmps59
  go_wp2_with fail
  go_step3
  go_wp2_with (go_at_call 132; refine (mayN_stamp32 w gv fv hn t).mono ?_; rintro e w' ⟨rfl, m, rfl⟩)
  try rw [Exit.noGoto_ret]
  go_ret
  exact ⟨rfl, m, rfl⟩
theorem q4_publishNil32 (gv fv : Option Addr) (hn : gv = none ∨ fv = none) (t : Int) (w : World) :
    Calls Tryd.prog 60 #[.pointer gv, .int .i64 t, .pointer fv] w fun e w' => e = .returned (.bool true) ∧ ∃ m, w' = w.drewN m := by
  go_enter Tryd.func60, Tryd.ntmps60
  go_wp2_with fail
  skip
  go_wp2_with (go_at_call 132; refine (mayN_stamp32 w gv fv hn t).mono ?_; rintro e w' ⟨rfl, m, rfl⟩)
  try rw [Exit.noGoto_ret]
  go_ret
  exact ⟨rfl, m, rfl⟩
theorem q4_tipNil32 (gv fv : Option Addr) (hn : gv = none ∨ fv = none) (t : Int) (w : World) :
    Calls Tryd.prog 61 #[.pointer gv, .int .i64 t, .pointer fv] w fun e w' => e = .returned (.bool true) ∧ ∃ m, w' = w.drewN m := by
  rcases hn with rfl | rfl
  · go_enter Tryd.func61, Tryd.ntmps61
    go_wp2_with fail
    go_ret
    exact ⟨rfl, 0, rfl⟩
  · cases gv with
    | none =>
      go_enter Tryd.func61, Tryd.ntmps61
      go_wp2_with fail
      go_ret
      exact ⟨rfl, 0, rfl⟩
    | some a =>
      go_enter Tryd.func61, Tryd.ntmps61
      go_wp2_with fail
      go_ret
      exact ⟨rfl, 0, rfl⟩
end Go.Proofs.YtnkmlopjinihiaaDoor
