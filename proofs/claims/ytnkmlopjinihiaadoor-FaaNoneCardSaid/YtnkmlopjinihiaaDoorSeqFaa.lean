/- Contracts of seqfaa's methods, for both widths: the things (board, events, sequencer, registers) behind a call. -/
import Derived.Test.YtnkmlopjinihiaaDoorSeqMay
import Derived.Test.YtnkmlopjinihiaaDoorSeqNP
import Derived.Test.YtnkmlopjinihiaaDoorAloneN
import Derived.Test.YtnkmlopjinihiaaDoorScope
import Derived.Test.YtnkmlopjinihiaaDoorEvent
import Derived.Test.YtnkmlopjinihiaaDoorGate
import Derived.Test.YtnkmlopjinihiaaDoorMark2
import Derived.Test.YtnkmlopjinihiaaDoorTurnF
import Derived.IntWalk
namespace Go.Proofs.YtnkmlopjinihiaaDoor
open Go.RowKit
set_option linter.unusedVariables false
set_option linter.unusedSimpArgs false
set_option maxHeartbeats 4000000

/-- what lies around a call -/
def Q332 (w0 : World) (γ0 : Nat → Nat) (S : Nat → Prop) (R : List It) (P : QP) (la : Option Addr) (lc : Nat) (q : SqC) (s : SqN) (f : FrS) (w : World) (γ : Nat → Nat) : Prop :=
  Its w0 γ0 S (itB 132 48 208 .u32 P.ib P.p s.b :: itL 155 162 P.il P.lg s.ev :: itSN 172 48 .u32 P.is_ P.g (fun n => csN P.p P.lg q la n lc) q la lc s.least :: P.fr .u32 f :: R) w γ
def Q3End32 (w0 : World) (γ0 : Nat → Nat) (S : Nat → Prop) (R : List It) (P : QP) (la : Option Addr) (lc : Nat) (q : SqC) (r : Bool × SqN × FrS) (e : Ending) (w' : World) : Prop :=
  e = .returned (.bool r.1) ∧ ∃ γ', Q332 w0 γ0 S R P la lc q r.2.1 r.2.2 w' γ'
section
variable {w0 w w' : World} {γ0 γ : Nat → Nat} {S : Nat → Prop} {R : List It} {P : QP} {la : Option Addr} {lc : Nat} {q : SqC} {s : SqN} {f f' : FrS}
theorem Q332.seq (h : Q332 w0 γ0 S R P la lc q s f w γ) : w.cell? ⟨P.g, 0, none⟩ = some (.pointer (some ⟨P.p, 0, none⟩)) ∧ w.cell? ⟨P.g, 1, none⟩ = some (.pointer (some ⟨P.lg, 0, none⟩)) ∧ w.cell? ⟨P.g, 4, none⟩ = some (.int .i64 q.c.cap) ∧ w.cell? ⟨P.g, 5, none⟩ = some (.int .i64 q.c.producers) ∧ w.cell? ⟨P.g, 8, none⟩ = some (.slice q.ea q.ends.length q.ec) ∧ w.cell? ⟨P.g, 9, none⟩ = some (.int .i64 q.cell) ∧ w.cell? ⟨P.g, 10, none⟩ = some (.slice la s.least.length lc) ∧ P.g < w.heap.size := by
  have hb : SeqNAt 172 48 .u32 w γ P.is_ P.g (fun n => csN P.p P.lg q la n lc) q la lc s.least := Its.g2 h
  exact ⟨hb.1.cell 0, hb.1.cell 1, hb.1.cell 4, hb.1.cell 5, hb.1.cell 8, hb.1.cell 9, hb.1.cell 10, hb.1.lt⟩
theorem Q332.ends (h : Q332 w0 γ0 S R P la lc q s f w γ) : IntsAt w (fun b => b < w.heap.size) q.ea q.ends := by
  have hb : SeqNAt 172 48 .u32 w γ P.is_ P.g (fun n => csN P.p P.lg q la n lc) q la lc s.least := Its.g2 h
  exact ints_of_own hb.2.2.1.1 (fun g _ h => h)
/-- what a producer knows of the gates -/
theorem Q332.row (h : Q332 w0 γ0 S R P la lc q s f w γ) {k : Nat} (hk : k < s.least.length) : ∃ lb, la = some ⟨lb, 0, none⟩ ∧ lb < w.heap.size ∧ w.cell? ⟨lb, k, none⟩ = some (.int .u32 (s.lst k)) ∧ w.frozen? ⟨lb, k, none⟩ = false := by
  have hb : SeqNAt 172 48 .u32 w γ P.is_ P.g (fun n => csN P.p P.lg q la n lc) q la lc s.least := Its.g2 h
  exact hb.row hk
theorem Q332.rowne {lb : Nat} (h : Q332 w0 γ0 S R P (some ⟨lb, 0, none⟩) lc q s f w γ) : lb ≠ P.g ∧ P.g ≠ lb ∧ lb ≠ P.fb ∧ P.fb ≠ lb := by
  have hb : SeqNAt 172 48 .u32 w γ P.is_ P.g (fun n => csN P.p P.lg q (some ⟨lb, 0, none⟩) n lc) q (some ⟨lb, 0, none⟩) lc s.least := Its.g2 h
  have h1 := hb.rowne (by decide)
  have hf : Blk w P.fb P.T (frsCs .u32 P.pre (P.fs.set P.t f) P.post) ∧ γ P.fb = P.ifr := Its.g3 h
  have hn : P.is_ ≠ P.ifr := Its.nid h (k := 2) (m := 3) rfl rfl (by decide)
  have h2 : lb ≠ P.fb := fun e => hn (by rw [← hb.rowlab, ← hf.2, e])
  exact ⟨h1, fun e => h1 e.symm, h2, fun e => h2 e.symm⟩
theorem Q332.reg (h : Q332 w0 γ0 S R P la lc q s f w γ) : w.cell? ⟨P.fb, P.o + 1, none⟩ = some (.int .i64 f.n) ∧ w.cell? ⟨P.fb, P.o + 3, none⟩ = some (.int .i64 f.pc) ∧ w.cell? ⟨P.fb, P.o + 4, none⟩ = some (.int .i64 f.i) ∧ w.cell? ⟨P.fb, P.o + 6, none⟩ = some (.int .u32 f.from_) ∧ w.cell? ⟨P.fb, P.o + 7, none⟩ = some (.int .u32 f.min) ∧ w.cell? ⟨P.fb, P.o + 8, none⟩ = some (.int .u32 f.val)
    ∧ w.cell? ⟨P.fb, P.o + 5, none⟩ = some (.int .i64 f.j) ∧ (∀ k, w.frozen? ⟨P.fb, k, none⟩ = false) ∧ P.fb < w.heap.size := by
  have hb : Blk w P.fb P.T (frsCs .u32 P.pre (P.fs.set P.t f) P.post) ∧ γ P.fb = P.ifr := Its.g3 h
  exact ⟨QP.cell hb.1 1 (by omega), QP.cell hb.1 3 (by omega), QP.cell hb.1 4 (by omega), QP.cell hb.1 6 (by omega), QP.cell hb.1 7 (by omega), QP.cell hb.1 8 (by omega), QP.cell hb.1 5 (by omega), fun k => hb.1.frozen k, hb.1.lt⟩
theorem Q332.ne (h : Q332 w0 γ0 S R P la lc q s f w γ) : P.g ≠ P.fb ∧ P.fb ≠ P.g := by
  have hb : Blk w P.fb P.T (frsCs .u32 P.pre (P.fs.set P.t f) P.post) ∧ γ P.fb = P.ifr := Its.g3 h
  have hs : SeqNAt 172 48 .u32 w γ P.is_ P.g (fun n => csN P.p P.lg q la n lc) q la lc s.least := Its.g2 h
  have hn : P.is_ ≠ P.ifr := Its.nid h (k := 2) (m := 3) rfl rfl (by decide)
  exact ⟨fun e => hn (by rw [← hs.2.1, ← hb.2, e]), fun e => hn (by rw [← hs.2.1, ← hb.2, e])⟩
theorem Q332.bel (h : Q332 w0 γ0 S R P la lc q s f w γ) (hb : Below w.heap.size w w') : Q332 w0 γ0 S R P la lc q s f w' γ := Its.below h hb
theorem Q332.drewN (h : Q332 w0 γ0 S R P la lc q s f w γ) (n : Nat) : Q332 w0 γ0 S R P la lc q s f (w.drewN n) γ := Its.drewN h n
theorem Q332.drew (h : Q332 w0 γ0 S R P la lc q s f w γ) : Q332 w0 γ0 S R P la lc q s f w.drew γ := Its.below h (Below.drew (Below.refl _ _))
theorem q3_may32 (h : Q332 w0 γ0 S R P la lc q s f w γ) (t : Int) : Calls Tryd.prog 139 #[.pointer (some ⟨P.g, 0, none⟩), .int .i64 t, .pointer (some ⟨P.fb, P.o, none⟩)] w fun e w' => e = .returned (.bool (mayP q t f)) ∧ ∃ m, w' = w.drewN m :=
  may_faa32 w P.g P.fb P.o q f t (Its.g2 h : SeqNAt 172 48 .u32 w γ P.is_ P.g (fun n => csN P.p P.lg q la n lc) q la lc s.least).1.cell5 (Its.g2 h : SeqNAt 172 48 .u32 w γ P.is_ P.g (fun n => csN P.p P.lg q la n lc) q la lc s.least).1.cell4 h.reg.1
theorem q3_scan32 (h : Q332 w0 γ0 S R P la lc q s f w γ) (hf : s.b.Fit M32) (hlen : s.b.log.length ≤ 1000000) (hen : q.ends.length ≤ 1000000) (t : Int) : Calls Tryd.prog 37 #[.pointer (some ⟨P.p, 0, none⟩), .int .i64 t, .slice q.ea q.ends.length q.ec, .pointer (some ⟨P.fb, P.o, none⟩)] w
    fun e w' => e = .returned (.bool (scanP M32 s.b t q.ends f).1) ∧ ∃ γ', Q332 w0 γ0 S R P la lc q { s with b := (scanP M32 s.b t q.ends f).2.1 } (scanP M32 s.b t q.ends f).2.2 w' γ' := by
  have hne : P.ifr ≠ P.ib := Its.ne03 h
  exact (gscan32 (P.bf hne) w γ w γ s.b f (Its.bfAt h hne) hf hlen t q.ea q.ends q.ec _ h.ends hen).mono fun e w' hq => Its.bfEnd h hne hq
theorem q3_note32 (h : Q332 w0 γ0 S R P la lc q s f w γ) (hlen : s.ev.length ≤ 1000000) (a : Ev) : Calls Tryd.prog 127 #[.pointer (some ⟨P.lg, 0, none⟩), .agg #[.int .i64 a.kind, .int .i64 a.thread, .int .i64 a.op, .int .i64 a.n, .int .u64 a.pos, .int .i64 a.code, .slice none 0 0]] w
    fun e w' => e = .returned (.tuple #[]) ∧ ∃ γ', Q332 w0 γ0 S R P la lc q { s with ev := s.ev ++ [a] } f w' γ' := by
  have hl : LogAt 155 162 w γ P.il P.lg s.ev := Its.g1 h
  exact (evNote w γ P.il P.lg s.ev hl hlen a).mono fun e w' hq => Its.one1 h rfl hq
theorem q3_load32 (h : Q332 w0 γ0 S R P la lc q s f w γ) (hf : s.b.Fit M32) (hlen : s.b.log.length ≤ 1000000) (t k : Int) : Calls Tryd.prog 104 #[.pointer (some ⟨P.p, 0, none⟩), .int .i64 t, .int .i64 k] w
    fun e w' => e = .returned (.int .u32 (s.b.load t k).1) ∧ ∃ γ', Q332 w0 γ0 S R P la lc q { s with b := (s.b.load t k).2 } f w' γ' :=
  (bLoad32 w γ P.ib P.p s.b (Its.g0 h) hf.ok hlen t k).mono fun e w' hq => Its.mut0 h hq
theorem q3_store32 (h : Q332 w0 γ0 S R P la lc q s f w γ) (hf : s.b.Fit M32) (hlen : s.b.log.length ≤ 1000000) (t k v : Int) (hv : InM M32 v) : Calls Tryd.prog 31 #[.pointer (some ⟨P.p, 0, none⟩), .int .i64 t, .int .i64 k, .int .u32 v] w
    fun e w' => e = .returned (.tuple #[]) ∧ ∃ γ', Q332 w0 γ0 S R P la lc q { s with b := s.b.store t k v } f w' γ' :=
  (bStore32 w γ P.ib P.p s.b (Its.g0 h) hf.ok hlen t k v hv).mono fun e w' hq => Its.mut0 h hq
theorem q3_swap32 (h : Q332 w0 γ0 S R P la lc q s f w γ) (hf : s.b.Fit M32) (hlen : s.b.log.length ≤ 1000000) (t k old v : Int) (hv : InM M32 v) : Calls Tryd.prog 135 #[.pointer (some ⟨P.p, 0, none⟩), .int .i64 t, .int .i64 k, .int .u32 old, .int .u32 v] w
    fun e w' => e = .returned (.bool (s.b.swap t k old v).1) ∧ ∃ γ', Q332 w0 γ0 S R P la lc q { s with b := (s.b.swap t k old v).2 } f w' γ' :=
  (bSwap32 w γ P.ib P.p s.b (Its.g0 h) hf.ok hlen t k old v hv).mono fun e w' hq => Its.mut0 h hq
theorem q3_add32 (h : Q332 w0 γ0 S R P la lc q s f w γ) (hf : s.b.Fit M32) (hlen : s.b.log.length ≤ 1000000) (t k n : Int) : Calls Tryd.prog 140 #[.pointer (some ⟨P.p, 0, none⟩), .int .i64 t, .int .i64 k, .int .i64 n] w
    fun e w' => e = .returned (.int .u32 (s.b.add M32 t k n).1) ∧ ∃ γ', Q332 w0 γ0 S R P la lc q { s with b := (s.b.add M32 t k n).2 } f w' γ' :=
  (bAdd32 w γ P.ib P.p s.b (Its.g0 h) hf.ok hlen t k n).mono fun e w' hq => Its.mut0 h hq
theorem q3_read32 (h : Q332 w0 γ0 S R P la lc q s f w γ) (hf : s.b.Fit M32) (hlen : s.b.log.length ≤ 1000000) (t k : Int) : Calls Tryd.prog 148 #[.pointer (some ⟨P.p, 0, none⟩), .int .i64 t, .int .i64 k] w
    fun e w' => e = .returned (.int .u32 (s.b.read t k).1) ∧ ∃ γ', Q332 w0 γ0 S R P la lc q { s with b := (s.b.read t k).2 } f w' γ' :=
  (bRead32 w γ P.ib P.p s.b (Its.g0 h) hf.ok hlen t k).mono fun e w' hq => Its.mut0 h hq
theorem q3_write32 (h : Q332 w0 γ0 S R P la lc q s f w γ) (hf : s.b.Fit M32) (hlen : s.b.log.length ≤ 1000000) (t k v : Int) (hv : InM M32 v) : Calls Tryd.prog 150 #[.pointer (some ⟨P.p, 0, none⟩), .int .i64 t, .int .i64 k, .int .u32 v] w
    fun e w' => e = .returned (.tuple #[]) ∧ ∃ γ', Q332 w0 γ0 S R P la lc q { s with b := s.b.write t k v } f w' γ' :=
  (bWrite32 w γ P.ib P.p s.b (Its.g0 h) hf.ok hlen t k v hv).mono fun e w' hq => Its.mut0 h hq
theorem q3_mpublish32 (h : Q332 w0 γ0 S R P la lc q s f w γ) (hf : s.b.Fit M32) (hlen : s.b.log.length ≤ 1000000) (t : Int) (hn : f.n ≤ 9223372036854775807) : Calls Tryd.prog 142 #[.pointer (some ⟨P.p, 0, none⟩), .int .i64 t, .pointer (some ⟨P.fb, P.o, none⟩)] w
    fun e w' => e = .returned (.bool (publishP M32 s.b t f).1) ∧ ∃ γ', Q332 w0 γ0 S R P la lc q { s with b := (publishP M32 s.b t f).2.1 } (publishP M32 s.b t f).2.2 w' γ' := by
  have hne : P.ifr ≠ P.ib := Its.ne03 h
  exact (mpublish32 (P.bf hne) w γ w γ s.b f (Its.bfAt h hne) hf hlen t hn).mono fun e w' hq => Its.bfEnd h hne hq
theorem q3_mseek32 (h : Q332 w0 γ0 S R P la lc q s f w γ) (hf : s.b.Fit M32) (hlen : s.b.log.length ≤ 1000000) (t : Int) (hv : InM M32 f.val) : Calls Tryd.prog 143 #[.pointer (some ⟨P.p, 0, none⟩), .int .i64 t, .pointer (some ⟨P.fb, P.o, none⟩)] w
    fun e w' => e = .returned (.bool (seekP M32 s.b t f).1) ∧ ∃ γ', Q332 w0 γ0 S R P la lc q { s with b := (seekP M32 s.b t f).2.1 } (seekP M32 s.b t f).2.2 w' γ' := by
  have hne : P.ifr ≠ P.ib := Its.ne03 h
  exact (mseek32 (P.bf hne) w γ w γ s.b f (Its.bfAt h hne) hf hlen t hv).mono fun e w' hq => Its.bfEnd h hne hq
theorem q3_enter32 (h : Q332 w0 γ0 S R P la lc q s f w γ) (hf : s.b.Fit M32) (hlen : s.b.log.length ≤ 1000000) (t : Int) : Calls Tryd.prog 147 #[.pointer (some ⟨P.p, 0, none⟩), .int .i64 t, .pointer (some ⟨P.fb, P.o, none⟩)] w
    fun e w' => e = .returned (.bool (enterP M32 s.b t f.pc f.own).1) ∧ ∃ γ', Q332 w0 γ0 S R P la lc q (enter5 M32 t s f).2.1 (enter5 M32 t s f).2.2 w' γ' := by
  have hne : P.ifr ≠ P.ib := Its.ne03 h
  exact (fEnter32 (P.bf hne) w γ w γ s.b f (Its.bfAt h hne) hf.ok hlen t).mono fun e w' hq => Its.bfEnd h hne hq
theorem q3_leave32 (h : Q332 w0 γ0 S R P la lc q s f w γ) (hf : s.b.Fit M32) (hlen : s.b.log.length ≤ 1000000) (t : Int) : Calls Tryd.prog 189 #[.pointer (some ⟨P.p, 0, none⟩), .int .i64 t] w
    fun e w' => e = .returned (.tuple #[]) ∧ ∃ γ', Q332 w0 γ0 S R P la lc q { s with b := leaveP M32 s.b t } f w' γ' :=
  (tLeave32 w γ P.ib P.p s.b (Its.g0 h) hf.ok hlen t).mono fun e w' hq => Its.mut0 h hq
theorem Q332.setPc (h : Q332 w0 γ0 S R P la lc q s f w γ) (x : Int) : Q332 w0 γ0 S R P la lc q s { f with pc := x } (w.setCell ⟨P.fb, P.o + 3, none⟩ (.int .i64 x)) γ := Its.setPc h x
theorem Q332.setI (h : Q332 w0 γ0 S R P la lc q s f w γ) (x : Int) : Q332 w0 γ0 S R P la lc q s { f with i := x } (w.setCell ⟨P.fb, P.o + 4, none⟩ (.int .i64 x)) γ := Its.setI h x
theorem Q332.setJ (h : Q332 w0 γ0 S R P la lc q s f w γ) (x : Int) : Q332 w0 γ0 S R P la lc q s { f with j := x } (w.setCell ⟨P.fb, P.o + 5, none⟩ (.int .i64 x)) γ := Its.setJ h x
theorem Q332.setFrom (h : Q332 w0 γ0 S R P la lc q s f w γ) (x : Int) : Q332 w0 γ0 S R P la lc q s { f with from_ := x } (w.setCell ⟨P.fb, P.o + 6, none⟩ (.int .u32 x)) γ := Its.setFrom h x
theorem Q332.setVal (h : Q332 w0 γ0 S R P la lc q s f w γ) (x : Int) : Q332 w0 γ0 S R P la lc q s { f with val := x } (w.setCell ⟨P.fb, P.o + 8, none⟩ (.int .u32 x)) γ := Its.setVal h x
theorem Q332.setLst {lb : Nat} (h : Q332 w0 γ0 S R P (some ⟨lb, 0, none⟩) lc q s f w γ) (k : Nat) (x : Int) : Q332 w0 γ0 S R P (some ⟨lb, 0, none⟩) lc q (s.know k x) f (w.setCell ⟨lb, k, none⟩ (.int .u32 x)) γ := Its.setLst (by decide) (by decide) h k x
end
theorem fits_seqfaa32 (w : World) (g fb o lb k n lc : Nat) (cap from_ nn least : Int) (hk : k < n) (h4 : w.cell? ⟨g, 4, none⟩ = some (.int .i64 cap)) (h10 : w.cell? ⟨g, 10, none⟩ = some (.slice (some ⟨lb, 0, none⟩) n lc)) (hl : w.cell? ⟨lb, k, none⟩ = some (.int .u32 least)) (h1 : w.cell? ⟨fb, o + 1, none⟩ = some (.int .i64 nn)) (h6 : w.cell? ⟨fb, o + 6, none⟩ = some (.int .u32 from_)) :
    Calls Tryd.prog 141 #[.pointer (some ⟨g, 0, none⟩), .int .i64 k, .pointer (some ⟨fb, o, none⟩)] w fun e w' => e = .returned (.bool (fitsP M32 cap from_ nn least)) ∧ ∃ m, w' = w.drewN m := by
  have hkn : (k : Int) < n := by omega
  have HF := Lib.hid (fun W => gfits32 cap from_ nn least W)
  clear hk
  go_enter Tryd.func141, Tryd.ntmps141
  go_wp2_with fail
  go_quiet ((go_at_call 94; exact quiet_left (HF.out _)))
  go_wp2_with fail
  go_ret
  exact ⟨rfl, _, rfl⟩
section
set_option maxRecDepth 100000
variable {w0 w w' : World} {γ0 γ : Nat → Nat} {S : Nat → Prop} {R : List It} {P : QP} {la : Option Addr} {lc : Nat} {q : SqC} {s : SqN} {f f' : FrS} {k : Nat}
theorem q3_claimN32 (h : Q332 w0 γ0 S R P la lc q s f w γ) (t : Int) (hm : mayP q t f = false) :
    Calls Tryd.prog 67 #[.pointer (some ⟨P.g, 0, none⟩), .int .i64 t, .pointer (some ⟨P.fb, P.o, none⟩)] w (Q3End32 w0 γ0 S R P la lc q (true, s, f)) := by
  have H := Lib.hid h
  have HM := Lib.hid hm
  clear h hm
  go_enter Tryd.func67, Tryd.ntmps67
  go_wp2_with fail
  go_step3
  go_wp2_with (go_at_call 139; refine (q3_may32 H.out _).mono ?_; rintro e w' ⟨rfl, m, rfl⟩; rw [HM.out])
  try rw [Exit.noGoto_ret]
  go_ret
  exact ⟨rfl, γ, H.out.drewN m⟩
theorem q3_claimB32 (h : Q332 w0 γ0 S R P la lc q s f w γ) (hf : s.b.Fit M32) (hlen : s.b.log.length ≤ 1000000) (hel : s.ev.length ≤ 999998) (hen : q.ends.length ≤ 1000000) (hk : k < s.least.length) (hm : mayP q k f = true) (hp : f.pc = 0) :
    Calls Tryd.prog 67 #[.pointer (some ⟨P.g, 0, none⟩), .int .i64 k, .pointer (some ⟨P.fb, P.o, none⟩)] w (Q3End32 w0 γ0 S R P la lc q (begin3 M32 q k s f)) := by
  have HAD := Lib.hid (fun W (hW : Q332 w0 γ0 S R P la lc q s f W γ) => q3_add32 hW hf hlen k q.cell f.n)
  have hux := hf.ok.add_inG hf.M2 k q.cell f.n
  have hb1 : (f.pc != 0) = false := by simp [hp]
  have hoth : ∀ (W : World) (v : Value), (W.setCell ⟨P.fb, P.o + 6, none⟩ v).cell? ⟨P.fb, P.o + 1, none⟩ = W.cell? ⟨P.fb, P.o + 1, none⟩ := fun W v => World.cell?_setCell_other _ _ _ _ (fun e => by injection e with e1 e2; omega)
  have HE1 := Lib.hid (show s.ev.length ≤ 1000000 by omega)
  have HE2 := Lib.hid (fun a : Ev => show (s.ev ++ [a]).length ≤ 1000000 by rw [List.length_append, List.length_singleton]; omega)
  obtain ⟨hne1, hne2⟩ := h.ne
  obtain ⟨lb, rfl, hlb, lc0, lz0⟩ := h.row hk
  obtain ⟨ln1, ln2, ln3, ln4⟩ := h.rowne
  obtain ⟨g0, g1, g4, g5, g8, g9, g10, hg⟩ := h.seq
  obtain ⟨r1, r3, r4, r6, r7, r8, r5, zr, hr⟩ := h.reg
  have H := Lib.hid h
  have HM := Lib.hid hm
  have HK := Lib.hid hk
  have hkn : (k : Int) < s.least.length := by omega
  unfold begin3 fitsQ
  generalize s.b.add M32 k q.cell f.n = r at *
  obtain ⟨x, b2⟩ := r
  dsimp only at *
  have HUX := Lib.hid hux
  clear h hm hf hlen hel hen hp hk hux
  cases hv : fitsP M32 q.c.cap x f.n (SqN.lst s k)
  · simp only [Bool.false_eq_true, if_false]
    have HFV := Lib.hid (show fitsP M32 q.c.cap x f.n (SqN.lst { b := b2, ev := s.ev ++ [(⟨3, k, 0, f.n, x, 0⟩ : Ev)], least := s.least } k) = false from hv)
    clear hv
    go_enter Tryd.func67, Tryd.ntmps67
    go_wp2_with fail
    go_step3
    go_wp2_with (go_at_call 139; refine (q3_may32 H.out _).mono ?_; rintro e w' ⟨rfl, m, rfl⟩; rw [HM.out])
    have hG := H.out.drewN m
    generalize w.drewN m = W1 at hG ⊢
    clear g0 g1 g4 g5 g8 g9 g10 hg r1 r3 r4 r6 r7 r8 r5 zr hr
    clear lc0 lz0 hlb
    obtain ⟨g0, g1, g4, g5, g8, g9, g10, hg⟩ := hG.seq
    obtain ⟨r1, r3, r4, r6, r7, r8, r5, zr, hr⟩ := hG.reg
    try dsimp only at r1 r3 r4 r6 r7 r8 r5
    have HSC := Lib.hid (fun W (hW : Below W1.heap.size W1 W) => HAD.out W (hG.bel hW))
    clear hG
    go_region_held3 (fun w' => w'.cell? ⟨P.g, 0, none⟩ = some (.pointer (some ⟨P.p, 0, none⟩)) ∧ w'.cell? ⟨P.g, 9, none⟩ = some (.int .i64 q.cell) ∧ w'.cell? ⟨P.fb, P.o + 1, none⟩ = some (.int .i64 f.n)) (go_keep) (first
      | (go_at_call 140; refine (HSC.out _ (by repeat (with_reducible first | exact Below.refl _ _ | refine Below.drew ?_ | refine below_drewN ?_ _))).mono ?_; rintro e w3 ⟨rfl, γ3, h3⟩; obtain ⟨g0k, g1k, g4k, g5k, g8k, g9k, g10k, hgk⟩ := h3.seq; obtain ⟨r1k, r3k, r4k, r6k, r7k, r8k, r5k, zrk, hrk⟩ := h3.reg; (try dsimp only at r1k r3k r4k r6k r7k r8k r5k); have H3 := Lib.hid h3; clear h3))
    go_wp2_with fail
    have hA := H3.out.setFrom x
    generalize w3.setCell ⟨P.fb, P.o + 6, none⟩ (.int .u32 x) = W2 at hA ⊢
    clear g0 g1 g4 g5 g8 g9 g10 hg r1 r3 r4 r6 r7 r8 r5 zr hr
    clear g0k g1k g4k g5k g8k g9k g10k hgk r1k r3k r4k r6k r7k r8k r5k zrk hrk
    obtain ⟨g0, g1, g4, g5, g8, g9, g10, hg⟩ := hA.seq
    obtain ⟨r1, r3, r4, r6, r7, r8, r5, zr, hr⟩ := hA.reg
    try dsimp only at r1 r3 r4 r6 r7 r8 r5
    have HNT := Lib.hid (fun W (hW : Below W2.heap.size W2 W) => q3_note32 (hA.bel hW) HE1.out ⟨3, k, 0, f.n, x, 0⟩)
    clear hA
    go_region_held3 (fun w' => w'.cell? ⟨P.g, 1, none⟩ = some (.pointer (some ⟨P.lg, 0, none⟩)) ∧ w'.cell? ⟨P.fb, P.o + 1, none⟩ = some (.int .i64 f.n) ∧ w'.cell? ⟨P.fb, P.o + 6, none⟩ = some (.int .u32 x)) (go_keep) (first
      | (go_at_call 103; refine (up32 _ HUX.out _).mono ?_; rintro e w' ⟨rfl, rfl⟩)
      | (go_at_call 127; refine (HNT.out _ (by repeat (with_reducible first | exact Below.refl _ _ | refine Below.drew ?_ | refine below_drewN ?_ _))).mono ?_; rintro e w5 ⟨rfl, γ5, h5⟩; obtain ⟨g0n, g1n, g4n, g5n, g8n, g9n, g10n, hgn⟩ := h5.seq; obtain ⟨r1n, r3n, r4n, r6n, r7n, r8n, r5n, zrn, hrn⟩ := h5.reg; (try dsimp only at r1n r3n r4n r6n r7n r8n r5n); have H5 := Lib.hid h5; clear h5; obtain ⟨lb', he, hlb, lc0, lz0⟩ := H5.out.row HK.out; cases he; have HK4 := Lib.hid g4n))
    clear g0 g1 g4 g5 g8 g9 g10 hg r1 r3 r4 r6 r7 r8 r5 zr hr
    go_wp2_with (go_at_call 141; refine (fits_seqfaa32 w5 P.g P.fb P.o lb k _ lc q.c.cap x f.n _ HK.out HK4.out (by assumption) lc0 (by assumption) (by assumption)).mono ?_; rintro e w' ⟨rfl, m2, rfl⟩; rw [HFV.out])
    try rw [Exit.noGoto_ret]
    go_ret
    exact ⟨rfl, γ5, ((H5.out.drewN m2).setPc 1).setI 0⟩
  · simp only [if_pos rfl]
    have HFV := Lib.hid (show fitsP M32 q.c.cap x f.n (SqN.lst { b := b2, ev := s.ev ++ [(⟨3, k, 0, f.n, x, 0⟩ : Ev)], least := s.least } k) = true from hv)
    clear hv
    go_enter Tryd.func67, Tryd.ntmps67
    go_wp2_with fail
    refine wp_scope_once 1 rfl ?_
    go_wp2_with (go_at_call 139; refine (q3_may32 H.out _).mono ?_; rintro e w' ⟨rfl, m, rfl⟩; rw [HM.out])
    have hG := H.out.drewN m
    generalize w.drewN m = W1 at hG ⊢
    clear g0 g1 g4 g5 g8 g9 g10 hg r1 r3 r4 r6 r7 r8 r5 zr hr
    clear lc0 lz0 hlb
    obtain ⟨g0, g1, g4, g5, g8, g9, g10, hg⟩ := hG.seq
    obtain ⟨r1, r3, r4, r6, r7, r8, r5, zr, hr⟩ := hG.reg
    try dsimp only at r1 r3 r4 r6 r7 r8 r5
    have HSC := Lib.hid (fun W (hW : Below W1.heap.size W1 W) => HAD.out W (hG.bel hW))
    clear hG
    go_region_held3 (fun w' => w'.cell? ⟨P.g, 0, none⟩ = some (.pointer (some ⟨P.p, 0, none⟩)) ∧ w'.cell? ⟨P.g, 9, none⟩ = some (.int .i64 q.cell) ∧ w'.cell? ⟨P.fb, P.o + 1, none⟩ = some (.int .i64 f.n)) (go_keep) (first
      | (go_at_call 140; refine (HSC.out _ (by repeat (with_reducible first | exact Below.refl _ _ | refine Below.drew ?_ | refine below_drewN ?_ _))).mono ?_; rintro e w3 ⟨rfl, γ3, h3⟩; obtain ⟨g0k, g1k, g4k, g5k, g8k, g9k, g10k, hgk⟩ := h3.seq; obtain ⟨r1k, r3k, r4k, r6k, r7k, r8k, r5k, zrk, hrk⟩ := h3.reg; (try dsimp only at r1k r3k r4k r6k r7k r8k r5k); have H3 := Lib.hid h3; clear h3))
    go_wp2_with fail
    have hA := H3.out.setFrom x
    generalize w3.setCell ⟨P.fb, P.o + 6, none⟩ (.int .u32 x) = W2 at hA ⊢
    clear g0 g1 g4 g5 g8 g9 g10 hg r1 r3 r4 r6 r7 r8 r5 zr hr
    clear g0k g1k g4k g5k g8k g9k g10k hgk r1k r3k r4k r6k r7k r8k r5k zrk hrk
    obtain ⟨g0, g1, g4, g5, g8, g9, g10, hg⟩ := hA.seq
    obtain ⟨r1, r3, r4, r6, r7, r8, r5, zr, hr⟩ := hA.reg
    try dsimp only at r1 r3 r4 r6 r7 r8 r5
    have HNT := Lib.hid (fun W (hW : Below W2.heap.size W2 W) => q3_note32 (hA.bel hW) HE1.out ⟨3, k, 0, f.n, x, 0⟩)
    clear hA
    go_region_held3 (fun w' => w'.cell? ⟨P.g, 1, none⟩ = some (.pointer (some ⟨P.lg, 0, none⟩)) ∧ w'.cell? ⟨P.fb, P.o + 1, none⟩ = some (.int .i64 f.n) ∧ w'.cell? ⟨P.fb, P.o + 6, none⟩ = some (.int .u32 x)) (go_keep) (first
      | (go_at_call 103; refine (up32 _ HUX.out _).mono ?_; rintro e w' ⟨rfl, rfl⟩)
      | (go_at_call 127; refine (HNT.out _ (by repeat (with_reducible first | exact Below.refl _ _ | refine Below.drew ?_ | refine below_drewN ?_ _))).mono ?_; rintro e w5 ⟨rfl, γ5, h5⟩; obtain ⟨g0n, g1n, g4n, g5n, g8n, g9n, g10n, hgn⟩ := h5.seq; obtain ⟨r1n, r3n, r4n, r6n, r7n, r8n, r5n, zrn, hrn⟩ := h5.reg; (try dsimp only at r1n r3n r4n r6n r7n r8n r5n); have H5 := Lib.hid h5; clear h5; obtain ⟨lb', he, hlb, lc0, lz0⟩ := H5.out.row HK.out; cases he; have HK4 := Lib.hid g4n))
    clear g0 g1 g4 g5 g8 g9 g10 hg r1 r3 r4 r6 r7 r8 r5 zr hr
    go_wp2_with (go_at_call 141; refine (fits_seqfaa32 w5 P.g P.fb P.o lb k _ lc q.c.cap x f.n _ HK.out HK4.out (by assumption) lc0 (by assumption) (by assumption)).mono ?_; rintro e w' ⟨rfl, m2, rfl⟩; rw [HFV.out])
    go_step3
    try simp only [Exit.then, Exit.inBlock]
    refine ⟨rfl, ?_⟩
    go_wp2_with fail
    try go_step3
    go_wp2_with fail
    go_wp2_with (go_at_call 127; refine (q3_note32 ((H5.out.drewN m2).setPc 0) (HE2.out _) ⟨4, k, 0, 0, 0, 0⟩).mono ?_; rintro e w6 ⟨rfl, γ6, h6⟩; have H6 := Lib.hid h6; clear h6)
    try rw [Exit.noGoto_ret]
    go_ret
    exact ⟨rfl, γ6, H6.out⟩
theorem q3_claimS32 (h : Q332 w0 γ0 S R P la lc q s f w γ) (hf : s.b.Fit M32) (hlen : s.b.log.length ≤ 1000000) (hel : s.ev.length ≤ 999998) (hen : q.ends.length ≤ 1000000) (hk : k < s.least.length) (hm : mayP q k f = true) (hp : f.pc ≠ 0) :
    Calls Tryd.prog 67 #[.pointer (some ⟨P.g, 0, none⟩), .int .i64 k, .pointer (some ⟨P.fb, P.o, none⟩)] w (Q3End32 w0 γ0 S R P la lc q (scan3 M32 q k s f)) := by
  have hs0 := fun W (hW : Q332 w0 γ0 S R P la lc q s f W γ) => q3_scan32 hW hf hlen hen k
  have hb1 : (f.pc != 0) = true := by simp [hp]
  have HE1 := Lib.hid (show s.ev.length ≤ 1000000 by omega)
  have HE2 := Lib.hid (fun a : Ev => show (s.ev ++ [a]).length ≤ 1000000 by rw [List.length_append, List.length_singleton]; omega)
  obtain ⟨hne1, hne2⟩ := h.ne
  obtain ⟨lb, rfl, hlb, lc0, lz0⟩ := h.row hk
  obtain ⟨ln1, ln2, ln3, ln4⟩ := h.rowne
  obtain ⟨g0, g1, g4, g5, g8, g9, g10, hg⟩ := h.seq
  obtain ⟨r1, r3, r4, r6, r7, r8, r5, zr, hr⟩ := h.reg
  have H := Lib.hid h
  have HM := Lib.hid hm
  have HK := Lib.hid hk
  have hkn : (k : Int) < s.least.length := by omega
  unfold scan3 SqN.scan fitsQ
  generalize scanP M32 s.b k q.ends f = r at *
  obtain ⟨d, b2, f2⟩ := r
  dsimp only at *
  have HS0 := Lib.hid hs0
  clear h hm hf hlen hel hen hp hk hs0
  cases d
  · simp only [if_pos rfl]
    go_enter Tryd.func67, Tryd.ntmps67
    go_wp2_with fail
    refine wp_scope_once 0 rfl ?_
    go_wp2_with (go_at_call 139; refine (q3_may32 H.out _).mono ?_; rintro e w' ⟨rfl, m, rfl⟩; rw [HM.out])
    go_step3
    try simp only [Exit.then, Exit.inBlock]
    refine ⟨rfl, ?_⟩
    go_wp2_with fail
    try go_step3
    go_wp2_with fail
    have hG := H.out.drewN m
    generalize w.drewN m = W1 at hG ⊢
    clear g0 g1 g4 g5 g8 g9 g10 hg r1 r3 r4 r6 r7 r8 r5 zr hr
    clear lc0 lz0 hlb
    obtain ⟨g0, g1, g4, g5, g8, g9, g10, hg⟩ := hG.seq
    obtain ⟨r1, r3, r4, r6, r7, r8, r5, zr, hr⟩ := hG.reg
    try dsimp only at r1 r3 r4 r6 r7 r8 r5
    have HSC := Lib.hid (fun W (hW : Below W1.heap.size W1 W) => HS0.out W (hG.bel hW))
    clear hG
    go_region_held3 (fun w' => w'.cell? ⟨P.g, 0, none⟩ = some (.pointer (some ⟨P.p, 0, none⟩)) ∧ w'.cell? ⟨P.g, 8, none⟩ = some (.slice q.ea q.ends.length q.ec)) (go_keep) (first
      | (go_at_call 37; refine (HSC.out _ (by repeat (with_reducible first | exact Below.refl _ _ | refine Below.drew ?_ | refine below_drewN ?_ _))).mono ?_; rintro e w3 ⟨rfl, γ3, h3⟩; obtain ⟨g0k, g1k, g4k, g5k, g8k, g9k, g10k, hgk⟩ := h3.seq; obtain ⟨r1k, r3k, r4k, r6k, r7k, r8k, r5k, zrk, hrk⟩ := h3.reg; (try dsimp only at r1k r3k r4k r6k r7k r8k r5k); have H3 := Lib.hid h3; clear h3))
    go_wp2_with fail
    try rw [Exit.noGoto_ret]
    go_ret
    exact ⟨rfl, γ3, H3.out⟩
  · simp only [Bool.true_eq_false, if_false]
    cases hv : fitsP M32 q.c.cap f2.from_ f2.n (SqN.lst (SqN.know { b := b2, ev := s.ev, least := s.least } k f2.min) k)
    · rw [if_pos (show fitsP M32 q.c.cap f2.from_ f2.n (SqN.lst { b := b2, ev := s.ev, least := s.least.set (k : Int).toNat f2.min } k) = false from hv)]
      have HFV := Lib.hid hv
      clear hv
      go_enter Tryd.func67, Tryd.ntmps67
      go_wp2_with fail
      refine wp_scope_once 0 rfl ?_
      go_wp2_with (go_at_call 139; refine (q3_may32 H.out _).mono ?_; rintro e w' ⟨rfl, m, rfl⟩; rw [HM.out])
      go_step3
      try simp only [Exit.then, Exit.inBlock]
      refine ⟨rfl, ?_⟩
      go_wp2_with fail
      try go_step3
      go_wp2_with fail
      have hG := H.out.drewN m
      generalize w.drewN m = W1 at hG ⊢
      clear g0 g1 g4 g5 g8 g9 g10 hg r1 r3 r4 r6 r7 r8 r5 zr hr
      clear lc0 lz0 hlb
      obtain ⟨g0, g1, g4, g5, g8, g9, g10, hg⟩ := hG.seq
      obtain ⟨r1, r3, r4, r6, r7, r8, r5, zr, hr⟩ := hG.reg
      try dsimp only at r1 r3 r4 r6 r7 r8 r5
      have HSC := Lib.hid (fun W (hW : Below W1.heap.size W1 W) => HS0.out W (hG.bel hW))
      clear hG
      go_region_held3 (fun w' => w'.cell? ⟨P.g, 0, none⟩ = some (.pointer (some ⟨P.p, 0, none⟩)) ∧ w'.cell? ⟨P.g, 8, none⟩ = some (.slice q.ea q.ends.length q.ec)) (go_keep) (first
        | (go_at_call 37; refine (HSC.out _ (by repeat (with_reducible first | exact Below.refl _ _ | refine Below.drew ?_ | refine below_drewN ?_ _))).mono ?_; rintro e w3 ⟨rfl, γ3, h3⟩; obtain ⟨g0k, g1k, g4k, g5k, g8k, g9k, g10k, hgk⟩ := h3.seq; obtain ⟨r1k, r3k, r4k, r6k, r7k, r8k, r5k, zrk, hrk⟩ := h3.reg; (try dsimp only at r1k r3k r4k r6k r7k r8k r5k); have H3 := Lib.hid h3; clear h3))
      go_wp2_with fail
      obtain ⟨lb', he, hlb, lc0, lz0⟩ := H3.out.row HK.out
      cases he
      clear g0 g1 g4 g5 g8 g9 g10 hg r1 r3 r4 r6 r7 r8 r5 zr hr
      go_region_held3 (fun w' => w'.cell? ⟨P.g, 10, none⟩ = some (.slice (some ⟨lb, 0, none⟩) s.least.length lc) ∧ w'.cell? ⟨P.fb, P.o + 7, none⟩ = some (.int .u32 f2.min)) (go_keep) (first
        | fail)
      have hA := (H3.out.setLst k f2.min).drew
      generalize (w3.setCell ⟨lb, k, none⟩ (.int .u32 f2.min)).drew = W2 at hA ⊢
      clear g0k g1k g4k g5k g8k g9k g10k hgk r1k r3k r4k r6k r7k r8k r5k zrk hrk
      clear lc0 lz0 hlb
      obtain ⟨g0, g1, g4, g5, g8, g9, g10, hg⟩ := hA.seq
      obtain ⟨r1, r3, r4, r6, r7, r8, r5, zr, hr⟩ := hA.reg
      have hk2 : k < (s.least.set k f2.min).length := by rw [List.length_set]; exact HK.out
      obtain ⟨lb', he, hlb, lc0, lz0⟩ := hA.row hk2
      cases he
      have HA := Lib.hid hA
      have HK4 := Lib.hid g4
      have HK2 := Lib.hid hk2
      clear hA hk2
      go_wp2_with (go_at_call 141; refine (fits_seqfaa32 W2 P.g P.fb P.o lb k _ lc q.c.cap f2.from_ f2.n _ HK2.out HK4.out (by assumption) lc0 (by assumption) (by assumption)).mono ?_; rintro e w' ⟨rfl, m2, rfl⟩; rw [HFV.out])
      try rw [Exit.noGoto_ret]
      go_ret
      exact ⟨rfl, γ3, HA.out.drewN m2⟩
    · rw [if_neg (show ¬ fitsP M32 q.c.cap f2.from_ f2.n (SqN.lst { b := b2, ev := s.ev, least := s.least.set (k : Int).toNat f2.min } k) = false from fun hx => by rw [show fitsP M32 q.c.cap f2.from_ f2.n (SqN.lst { b := b2, ev := s.ev, least := s.least.set (k : Int).toNat f2.min } k) = true from hv] at hx; cases hx)]
      have HFV := Lib.hid hv
      clear hv
      go_enter Tryd.func67, Tryd.ntmps67
      go_wp2_with fail
      refine wp_scope_once 0 rfl ?_
      go_wp2_with (go_at_call 139; refine (q3_may32 H.out _).mono ?_; rintro e w' ⟨rfl, m, rfl⟩; rw [HM.out])
      go_step3
      try simp only [Exit.then, Exit.inBlock]
      refine ⟨rfl, ?_⟩
      go_wp2_with fail
      try go_step3
      go_wp2_with fail
      have hG := H.out.drewN m
      generalize w.drewN m = W1 at hG ⊢
      clear g0 g1 g4 g5 g8 g9 g10 hg r1 r3 r4 r6 r7 r8 r5 zr hr
      clear lc0 lz0 hlb
      obtain ⟨g0, g1, g4, g5, g8, g9, g10, hg⟩ := hG.seq
      obtain ⟨r1, r3, r4, r6, r7, r8, r5, zr, hr⟩ := hG.reg
      try dsimp only at r1 r3 r4 r6 r7 r8 r5
      have HSC := Lib.hid (fun W (hW : Below W1.heap.size W1 W) => HS0.out W (hG.bel hW))
      clear hG
      go_region_held3 (fun w' => w'.cell? ⟨P.g, 0, none⟩ = some (.pointer (some ⟨P.p, 0, none⟩)) ∧ w'.cell? ⟨P.g, 8, none⟩ = some (.slice q.ea q.ends.length q.ec)) (go_keep) (first
        | (go_at_call 37; refine (HSC.out _ (by repeat (with_reducible first | exact Below.refl _ _ | refine Below.drew ?_ | refine below_drewN ?_ _))).mono ?_; rintro e w3 ⟨rfl, γ3, h3⟩; obtain ⟨g0k, g1k, g4k, g5k, g8k, g9k, g10k, hgk⟩ := h3.seq; obtain ⟨r1k, r3k, r4k, r6k, r7k, r8k, r5k, zrk, hrk⟩ := h3.reg; (try dsimp only at r1k r3k r4k r6k r7k r8k r5k); have H3 := Lib.hid h3; clear h3))
      go_wp2_with fail
      obtain ⟨lb', he, hlb, lc0, lz0⟩ := H3.out.row HK.out
      cases he
      clear g0 g1 g4 g5 g8 g9 g10 hg r1 r3 r4 r6 r7 r8 r5 zr hr
      go_region_held3 (fun w' => w'.cell? ⟨P.g, 10, none⟩ = some (.slice (some ⟨lb, 0, none⟩) s.least.length lc) ∧ w'.cell? ⟨P.fb, P.o + 7, none⟩ = some (.int .u32 f2.min)) (go_keep) (first
        | fail)
      have hA := (H3.out.setLst k f2.min).drew
      generalize (w3.setCell ⟨lb, k, none⟩ (.int .u32 f2.min)).drew = W2 at hA ⊢
      clear g0k g1k g4k g5k g8k g9k g10k hgk r1k r3k r4k r6k r7k r8k r5k zrk hrk
      clear lc0 lz0 hlb
      obtain ⟨g0, g1, g4, g5, g8, g9, g10, hg⟩ := hA.seq
      obtain ⟨r1, r3, r4, r6, r7, r8, r5, zr, hr⟩ := hA.reg
      have hk2 : k < (s.least.set k f2.min).length := by rw [List.length_set]; exact HK.out
      obtain ⟨lb', he, hlb, lc0, lz0⟩ := hA.row hk2
      cases he
      have HA := Lib.hid hA
      have HK4 := Lib.hid g4
      have HK2 := Lib.hid hk2
      clear hA hk2
      go_wp2_with (go_at_call 141; refine (fits_seqfaa32 W2 P.g P.fb P.o lb k _ lc q.c.cap f2.from_ f2.n _ HK2.out HK4.out (by assumption) lc0 (by assumption) (by assumption)).mono ?_; rintro e w' ⟨rfl, m2, rfl⟩; rw [HFV.out])
      try go_step3
      go_wp2_with (go_at_call 127; refine (q3_note32 ((HA.out.drewN m2).setPc 0) HE1.out ⟨4, k, 0, 0, 0, 0⟩).mono ?_; rintro e w6 ⟨rfl, γ6, h6⟩; have H6 := Lib.hid h6; clear h6)
      try rw [Exit.noGoto_ret]
      go_ret
      exact ⟨rfl, γ6, H6.out⟩
theorem q3_claim32 (h : Q332 w0 γ0 S R P la lc q s f w γ) (hf : s.b.Fit M32) (hlen : s.b.log.length ≤ 1000000) (hel : s.ev.length ≤ 999998) (hen : q.ends.length ≤ 1000000) (hcap : q.c.cap ≤ 64) (hfi : InM M32 f.from_) (hj : 0 ≤ f.j ∧ f.j ≤ 1000000) (hl : (s.least.length : Int) = q.c.producers) (hbl : s.b.l.c = q.c) (t : Int) :
    Calls Tryd.prog 67 #[.pointer (some ⟨P.g, 0, none⟩), .int .i64 t, .pointer (some ⟨P.fb, P.o, none⟩)] w (Q3End32 w0 γ0 S R P la lc q (claim3 M32 q t s f)) := by
  unfold claim3
  cases hm : mayP q t f
  · rw [if_pos rfl]; exact q3_claimN32 h t hm
  · rw [if_neg (by decide)]
    have hb := (of_decide_eq_true hm : 0 ≤ t ∧ t < q.c.producers ∧ 1 ≤ f.n ∧ f.n ≤ q.c.cap)
    obtain ⟨k, rfl⟩ := Int.eq_ofNat_of_zero_le hb.1
    have hk : k < s.least.length := by omega
    by_cases h1 : f.pc = 0
    · rw [if_pos h1]; exact q3_claimB32 h hf hlen hel hen hk hm h1
    · rw [if_neg h1]; exact q3_claimS32 h hf hlen hel hen hk hm h1
end
section
set_option maxRecDepth 100000
variable {w0 w w' : World} {γ0 γ : Nat → Nat} {S : Nat → Prop} {R : List It} {P : QP} {la : Option Addr} {lc : Nat} {q : SqC} {s : SqN} {f f' : FrS} {k : Nat}
theorem q3_publish32 (h : Q332 w0 γ0 S R P la lc q s f w γ) (hf : s.b.Fit M32) (hlen : s.b.log.length ≤ 1000000) (hel : s.ev.length ≤ 999998) (hen : q.ends.length ≤ 1000000) (hcap : q.c.cap ≤ 64) (hfi : InM M32 f.from_) (t : Int) :
    Calls Tryd.prog 68 #[.pointer (some ⟨P.g, 0, none⟩), .int .i64 t, .pointer (some ⟨P.fb, P.o, none⟩)] w (Q3End32 w0 γ0 S R P la lc q (publish2 M32 q t s f)) := by
  unfold publish2
  obtain ⟨hne1, hne2⟩ := h.ne
  obtain ⟨g0, g1, g4, g5, g8, g9, g10, hg⟩ := h.seq
  obtain ⟨r1, r3, r4, r6, r7, r8, r5, zr, hr⟩ := h.reg
  have H := Lib.hid h
  cases hm : mayP q t f
  · rw [if_pos rfl]
    have HM := Lib.hid hm
    clear h hm
    go_enter Tryd.func68, Tryd.ntmps68
    go_wp2_with (go_at_call 139; refine (q3_may32 H.out _).mono ?_; rintro e w' ⟨rfl, m, rfl⟩; rw [HM.out])
    go_ret
    exact ⟨rfl, γ, H.out.drewN m⟩
  · rw [if_neg (by decide)]
    have HM := Lib.hid hm
    have hn : f.n ≤ 9223372036854775807 := by have := (of_decide_eq_true hm : 0 ≤ t ∧ t < q.c.producers ∧ 1 ≤ f.n ∧ f.n ≤ q.c.cap).2.2.2; omega
    have HMP := Lib.hid (fun W (hW : Q332 w0 γ0 S R P la lc q s f W γ) => q3_mpublish32 hW hf hlen t hn)
    have HE1 := Lib.hid (show s.ev.length ≤ 1000000 by omega)
    have HNI := Lib.hid (addM_in32 f.from_ f.i)
    generalize publishP M32 s.b t f = r at *
    obtain ⟨d, b2, f2⟩ := r
    dsimp only at *
    clear h hm hel hf hlen hen hfi hcap hn
    go_enter Tryd.func68, Tryd.ntmps68
    go_wp2_with (go_at_call 139; refine (q3_may32 H.out _).mono ?_; rintro e w' ⟨rfl, m, rfl⟩; rw [HM.out])
    have hG := H.out.drewN m
    generalize w.drewN m = W1 at hG ⊢
    clear g0 g1 g4 g5 g8 g9 g10 hg r1 r3 r4 r6 r7 r8 r5 zr hr
    obtain ⟨g0, g1, g4, g5, g8, g9, g10, hg⟩ := hG.seq
    obtain ⟨r1, r3, r4, r6, r7, r8, r5, zr, hr⟩ := hG.reg
    have HG := Lib.hid hG
    clear hG
    go_quiet ((go_at_call 35; exact quiet_left (add32 _ _ _)))
    go_wp2_with (go_at_call 142; refine (HMP.out _ (HG.out.bel (by repeat (with_reducible first | exact Below.refl _ _ | refine Below.drew ?_ | refine below_drewN ?_ _)))).mono ?_; rintro e w3 ⟨rfl, γ3, h3⟩; obtain ⟨g0k, g1k, g4k, g5k, g8k, g9k, g10k, hgk⟩ := h3.seq; obtain ⟨r1k, r3k, r4k, r6k, r7k, r8k, r5k, zrk, hrk⟩ := h3.reg; (try dsimp only at r1k r3k r4k r6k r7k r8k r5k); have H3 := Lib.hid h3; clear h3)
    have HNT := Lib.hid (fun W (hW : Below w3.heap.size w3 W) => q3_note32 (H3.out.bel hW) HE1.out ⟨5, t, 0, 1, addM M32 f.from_ f.i, 0⟩)
    clear g0 g1 g4 g5 g8 g9 g10 hg r1 r3 r4 r6 r7 r8 r5 zr hr
    go_region_held3 (fun w' => w'.cell? ⟨P.g, 1, none⟩ = some (.pointer (some ⟨P.lg, 0, none⟩))) (go_keep) (first
      | (go_at_call 103; refine (up32 _ HNI.out _).mono ?_; rintro e w' ⟨rfl, rfl⟩)
      | (go_at_call 127; refine (HNT.out _ (by repeat (with_reducible first | exact Below.refl _ _ | refine Below.drew ?_ | refine below_drewN ?_ _))).mono ?_; rintro e w5 ⟨rfl, γ5, h5⟩; obtain ⟨g0n, g1n, g4n, g5n, g8n, g9n, g10n, hgn⟩ := h5.seq; obtain ⟨r1n, r3n, r4n, r6n, r7n, r8n, r5n, zrn, hrn⟩ := h5.reg; (try dsimp only at r1n r3n r4n r6n r7n r8n r5n); have H5 := Lib.hid h5; clear h5))
    go_wp2_with fail
    go_ret
    exact ⟨rfl, γ5, H5.out⟩
end
section
set_option maxRecDepth 100000
variable {w0 w w' : World} {γ0 γ : Nat → Nat} {S : Nat → Prop} {R : List It} {P : QP} {la : Option Addr} {lc : Nat} {q : SqC} {s : SqN} {f f' : FrS} {k : Nat}
theorem q3_tip32 (h : Q332 w0 γ0 S R P la lc q s f w γ) (hf : s.b.Fit M32) (hlen : s.b.log.length ≤ 1000000) (hv : InM M32 f.val) (t : Int) :
    Calls Tryd.prog 69 #[.pointer (some ⟨P.g, 0, none⟩), .int .i64 t, .pointer (some ⟨P.fb, P.o, none⟩)] w (Q3End32 w0 γ0 S R P la lc q (tip2 M32 t s f)) := by
  unfold tip2
  obtain ⟨g0, g1, g4, g5, g8, g9, g10, hg⟩ := h.seq
  obtain ⟨r1, r3, r4, r6, r7, r8, r5, zr, hr⟩ := h.reg
  have H := Lib.hid h
  have HMP := Lib.hid (fun W (hW : Q332 w0 γ0 S R P la lc q s f W γ) => q3_mseek32 hW hf hlen t hv)
  generalize seekP M32 s.b t f = r at *
  obtain ⟨d, b2, f2⟩ := r
  dsimp only at *
  clear h hf hlen hv
  go_enter Tryd.func69, Tryd.ntmps69
  go_wp2_with (go_at_call 143; refine (HMP.out _ (H.out.bel (by repeat (with_reducible first | exact Below.refl _ _ | refine Below.drew ?_ | refine below_drewN ?_ _)))).mono ?_; rintro e w3 ⟨rfl, γ3, h3⟩; have H3 := Lib.hid h3; clear h3)
  go_ret
  exact ⟨rfl, γ3, H3.out⟩
end
section
variable {w0 w w' : World} {γ0 γ : Nat → Nat} {S : Nat → Prop} {R : List It} {P : QP} {la : Option Addr} {lc : Nat} {q : SqC} {s : SqN} {f f' : FrS} {n : Nat}
theorem q3s_claim32 (h : Q332 w0 γ0 S R P la lc q s f w γ) (hs : StN M32 q n s) (hn : n ≤ 400000) (hr : FOk M32 f) (t : Int) : Calls Tryd.prog 67 #[.pointer (some ⟨P.g, 0, none⟩), .int .i64 t, .pointer (some ⟨P.fb, P.o, none⟩)] w (Q3End32 w0 γ0 S R P la lc q (claim3 M32 q t s f)) :=
  q3_claim32 h hs.fit (by have := hs.log; omega) (by have := hs.ev; omega) (by have := hs.ends; omega) (by rw [← hs.conf]; exact hs.fit.cap.bd.2) hr.from_ hr.j hs.len hs.conf t
theorem q3s_publish32 (h : Q332 w0 γ0 S R P la lc q s f w γ) (hs : StN M32 q n s) (hn : n ≤ 400000) (hr : FOk M32 f) (t : Int) : Calls Tryd.prog 68 #[.pointer (some ⟨P.g, 0, none⟩), .int .i64 t, .pointer (some ⟨P.fb, P.o, none⟩)] w (Q3End32 w0 γ0 S R P la lc q (publish2 M32 q t s f)) :=
  q3_publish32 h hs.fit (by have := hs.log; omega) (by have := hs.ev; omega) (by have := hs.ends; omega) (by rw [← hs.conf]; exact hs.fit.cap.bd.2) hr.from_ t
theorem q3s_tip32 (h : Q332 w0 γ0 S R P la lc q s f w γ) (hs : StN M32 q n s) (hn : n ≤ 400000) (hr : FOk M32 f) (t : Int) : Calls Tryd.prog 69 #[.pointer (some ⟨P.g, 0, none⟩), .int .i64 t, .pointer (some ⟨P.fb, P.o, none⟩)] w (Q3End32 w0 γ0 S R P la lc q (tip2 M32 t s f)) :=
  q3_tip32 h hs.fit (by have := hs.log; omega) hr.val t
end
theorem q3_claimNil32 (gv fv : Option Addr) (hn : gv = none ∨ fv = none) (t : Int) (w : World) :
    Calls Tryd.prog 67 #[.pointer gv, .int .i64 t, .pointer fv] w fun e w' => e = .returned (.bool true) ∧ ∃ m, w' = w.drewN m := by
  go_enter Tryd.func67, Tryd.ntmps67
  go_wp2_with fail
  go_step3
  go_wp2_with (go_at_call 139; refine (mayN_faa32 w gv fv hn t).mono ?_; rintro e w' ⟨rfl, m, rfl⟩)
  try rw [Exit.noGoto_ret]
  go_ret
  exact ⟨rfl, m, rfl⟩
theorem q3_publishNil32 (gv fv : Option Addr) (hn : gv = none ∨ fv = none) (t : Int) (w : World) :
    Calls Tryd.prog 68 #[.pointer gv, .int .i64 t, .pointer fv] w fun e w' => e = .returned (.bool true) ∧ ∃ m, w' = w.drewN m := by
  go_enter Tryd.func68, Tryd.ntmps68
  go_wp2_with fail
  skip
  go_wp2_with (go_at_call 139; refine (mayN_faa32 w gv fv hn t).mono ?_; rintro e w' ⟨rfl, m, rfl⟩)
  try rw [Exit.noGoto_ret]
  go_ret
  exact ⟨rfl, m, rfl⟩
theorem q3_tipNil32 (gv fv : Option Addr) (hn : gv = none ∨ fv = none) (t : Int) (w : World) :
    Calls Tryd.prog 69 #[.pointer gv, .int .i64 t, .pointer fv] w fun e w' => e = .returned (.bool true) ∧ ∃ m, w' = w.drewN m := by
  rcases hn with rfl | rfl
  · go_enter Tryd.func69, Tryd.ntmps69
    go_wp2_with fail
    go_ret
    exact ⟨rfl, 0, rfl⟩
  · cases gv with
    | none =>
      go_enter Tryd.func69, Tryd.ntmps69
      go_wp2_with fail
      go_ret
      exact ⟨rfl, 0, rfl⟩
    | some a =>
      go_enter Tryd.func69, Tryd.ntmps69
      go_wp2_with fail
      go_ret
      exact ⟨rfl, 0, rfl⟩
end Go.Proofs.YtnkmlopjinihiaaDoor
