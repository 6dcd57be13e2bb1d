/- Contracts of seqlock's methods, for both widths: the things (board, events, sequencer, registers) behind a call. -/
import Derived.Test.YtnkmlopjinihiaaDoorSeqMay
import Derived.Test.YtnkmlopjinihiaaDoorSeqNP
import Derived.Test.YtnkmlopjinihiaaDoorAloneN
import Derived.Test.YtnkmlopjinihiaaDoorScope
import Derived.Test.YtnkmlopjinihiaaDoorEvent
import Derived.Test.YtnkmlopjinihiaaDoorGate
import Derived.Test.YtnkmlopjinihiaaDoorMark2
import Derived.Test.YtnkmlopjinihiaaDoorTurnF
import Derived.IntWalk
namespace Go.Proofs.YtnkmlopjinihiaaDoor
open Go.RowKit
set_option linter.unusedVariables false
set_option linter.unusedSimpArgs false
set_option maxHeartbeats 4000000

/-- what lies around a call -/
def Q532 (w0 : World) (γ0 : Nat → Nat) (S : Nat → Prop) (R : List It) (P : QP) (la : Option Addr) (lc : Nat) (q : SqC) (s : SqN) (f : FrS) (w : World) (γ : Nat → Nat) : Prop :=
  Its w0 γ0 S (itB 132 48 208 .u32 P.ib P.p s.b :: itL 155 162 P.il P.lg s.ev :: itSN 178 48 .u32 P.is_ P.g (fun n => csN P.p P.lg q la n lc) q la lc s.least :: P.fr .u32 f :: R) w γ
def Q5End32 (w0 : World) (γ0 : Nat → Nat) (S : Nat → Prop) (R : List It) (P : QP) (la : Option Addr) (lc : Nat) (q : SqC) (r : Bool × SqN × FrS) (e : Ending) (w' : World) : Prop :=
  e = .returned (.bool r.1) ∧ ∃ γ', Q532 w0 γ0 S R P la lc q r.2.1 r.2.2 w' γ'
section
variable {w0 w w' : World} {γ0 γ : Nat → Nat} {S : Nat → Prop} {R : List It} {P : QP} {la : Option Addr} {lc : Nat} {q : SqC} {s : SqN} {f f' : FrS}
theorem Q532.seq (h : Q532 w0 γ0 S R P la lc q s f w γ) : w.cell? ⟨P.g, 0, none⟩ = some (.pointer (some ⟨P.p, 0, none⟩)) ∧ w.cell? ⟨P.g, 1, none⟩ = some (.pointer (some ⟨P.lg, 0, none⟩)) ∧ w.cell? ⟨P.g, 4, none⟩ = some (.int .i64 q.c.cap) ∧ w.cell? ⟨P.g, 5, none⟩ = some (.int .i64 q.c.producers) ∧ w.cell? ⟨P.g, 8, none⟩ = some (.slice q.ea q.ends.length q.ec) ∧ w.cell? ⟨P.g, 9, none⟩ = some (.int .i64 q.cell) ∧ w.cell? ⟨P.g, 10, none⟩ = some (.slice la s.least.length lc) ∧ P.g < w.heap.size := by
  have hb : SeqNAt 178 48 .u32 w γ P.is_ P.g (fun n => csN P.p P.lg q la n lc) q la lc s.least := Its.g2 h
  exact ⟨hb.1.cell 0, hb.1.cell 1, hb.1.cell 4, hb.1.cell 5, hb.1.cell 8, hb.1.cell 9, hb.1.cell 10, hb.1.lt⟩
theorem Q532.ends (h : Q532 w0 γ0 S R P la lc q s f w γ) : IntsAt w (fun b => b < w.heap.size) q.ea q.ends := by
  have hb : SeqNAt 178 48 .u32 w γ P.is_ P.g (fun n => csN P.p P.lg q la n lc) q la lc s.least := Its.g2 h
  exact ints_of_own hb.2.2.1.1 (fun g _ h => h)
/-- what a producer knows of the gates -/
theorem Q532.row (h : Q532 w0 γ0 S R P la lc q s f w γ) {k : Nat} (hk : k < s.least.length) : ∃ lb, la = some ⟨lb, 0, none⟩ ∧ lb < w.heap.size ∧ w.cell? ⟨lb, k, none⟩ = some (.int .u32 (s.lst k)) ∧ w.frozen? ⟨lb, k, none⟩ = false := by
  have hb : SeqNAt 178 48 .u32 w γ P.is_ P.g (fun n => csN P.p P.lg q la n lc) q la lc s.least := Its.g2 h
  exact hb.row hk
theorem Q532.rowne {lb : Nat} (h : Q532 w0 γ0 S R P (some ⟨lb, 0, none⟩) lc q s f w γ) : lb ≠ P.g ∧ P.g ≠ lb ∧ lb ≠ P.fb ∧ P.fb ≠ lb := by
  have hb : SeqNAt 178 48 .u32 w γ P.is_ P.g (fun n => csN P.p P.lg q (some ⟨lb, 0, none⟩) n lc) q (some ⟨lb, 0, none⟩) lc s.least := Its.g2 h
  have h1 := hb.rowne (by decide)
  have hf : Blk w P.fb P.T (frsCs .u32 P.pre (P.fs.set P.t f) P.post) ∧ γ P.fb = P.ifr := Its.g3 h
  have hn : P.is_ ≠ P.ifr := Its.nid h (k := 2) (m := 3) rfl rfl (by decide)
  have h2 : lb ≠ P.fb := fun e => hn (by rw [← hb.rowlab, ← hf.2, e])
  exact ⟨h1, fun e => h1 e.symm, h2, fun e => h2 e.symm⟩
theorem Q532.reg (h : Q532 w0 γ0 S R P la lc q s f w γ) : w.cell? ⟨P.fb, P.o + 1, none⟩ = some (.int .i64 f.n) ∧ w.cell? ⟨P.fb, P.o + 3, none⟩ = some (.int .i64 f.pc) ∧ w.cell? ⟨P.fb, P.o + 4, none⟩ = some (.int .i64 f.i) ∧ w.cell? ⟨P.fb, P.o + 6, none⟩ = some (.int .u32 f.from_) ∧ w.cell? ⟨P.fb, P.o + 7, none⟩ = some (.int .u32 f.min) ∧ w.cell? ⟨P.fb, P.o + 8, none⟩ = some (.int .u32 f.val)
    ∧ w.cell? ⟨P.fb, P.o + 5, none⟩ = some (.int .i64 f.j) ∧ (∀ k, w.frozen? ⟨P.fb, k, none⟩ = false) ∧ P.fb < w.heap.size := by
  have hb : Blk w P.fb P.T (frsCs .u32 P.pre (P.fs.set P.t f) P.post) ∧ γ P.fb = P.ifr := Its.g3 h
  exact ⟨QP.cell hb.1 1 (by omega), QP.cell hb.1 3 (by omega), QP.cell hb.1 4 (by omega), QP.cell hb.1 6 (by omega), QP.cell hb.1 7 (by omega), QP.cell hb.1 8 (by omega), QP.cell hb.1 5 (by omega), fun k => hb.1.frozen k, hb.1.lt⟩
theorem Q532.ne (h : Q532 w0 γ0 S R P la lc q s f w γ) : P.g ≠ P.fb ∧ P.fb ≠ P.g := by
  have hb : Blk w P.fb P.T (frsCs .u32 P.pre (P.fs.set P.t f) P.post) ∧ γ P.fb = P.ifr := Its.g3 h
  have hs : SeqNAt 178 48 .u32 w γ P.is_ P.g (fun n => csN P.p P.lg q la n lc) q la lc s.least := Its.g2 h
  have hn : P.is_ ≠ P.ifr := Its.nid h (k := 2) (m := 3) rfl rfl (by decide)
  exact ⟨fun e => hn (by rw [← hs.2.1, ← hb.2, e]), fun e => hn (by rw [← hs.2.1, ← hb.2, e])⟩
theorem Q532.bel (h : Q532 w0 γ0 S R P la lc q s f w γ) (hb : Below w.heap.size w w') : Q532 w0 γ0 S R P la lc q s f w' γ := Its.below h hb
theorem Q532.drewN (h : Q532 w0 γ0 S R P la lc q s f w γ) (n : Nat) : Q532 w0 γ0 S R P la lc q s f (w.drewN n) γ := Its.drewN h n
theorem Q532.drew (h : Q532 w0 γ0 S R P la lc q s f w γ) : Q532 w0 γ0 S R P la lc q s f w.drew γ := Its.below h (Below.drew (Below.refl _ _))
theorem q5_may32 (h : Q532 w0 γ0 S R P la lc q s f w γ) (t : Int) : Calls Tryd.prog 146 #[.pointer (some ⟨P.g, 0, none⟩), .int .i64 t, .pointer (some ⟨P.fb, P.o, none⟩)] w fun e w' => e = .returned (.bool (mayP q t f)) ∧ ∃ m, w' = w.drewN m :=
  may_lock32 w P.g P.fb P.o q f t (Its.g2 h : SeqNAt 178 48 .u32 w γ P.is_ P.g (fun n => csN P.p P.lg q la n lc) q la lc s.least).1.cell5 (Its.g2 h : SeqNAt 178 48 .u32 w γ P.is_ P.g (fun n => csN P.p P.lg q la n lc) q la lc s.least).1.cell4 h.reg.1
theorem q5_scan32 (h : Q532 w0 γ0 S R P la lc q s f w γ) (hf : s.b.Fit M32) (hlen : s.b.log.length ≤ 1000000) (hen : q.ends.length ≤ 1000000) (t : Int) : Calls Tryd.prog 37 #[.pointer (some ⟨P.p, 0, none⟩), .int .i64 t, .slice q.ea q.ends.length q.ec, .pointer (some ⟨P.fb, P.o, none⟩)] w
    fun e w' => e = .returned (.bool (scanP M32 s.b t q.ends f).1) ∧ ∃ γ', Q532 w0 γ0 S R P la lc q { s with b := (scanP M32 s.b t q.ends f).2.1 } (scanP M32 s.b t q.ends f).2.2 w' γ' := by
  have hne : P.ifr ≠ P.ib := Its.ne03 h
  exact (gscan32 (P.bf hne) w γ w γ s.b f (Its.bfAt h hne) hf hlen t q.ea q.ends q.ec _ h.ends hen).mono fun e w' hq => Its.bfEnd h hne hq
theorem q5_note32 (h : Q532 w0 γ0 S R P la lc q s f w γ) (hlen : s.ev.length ≤ 1000000) (a : Ev) : Calls Tryd.prog 127 #[.pointer (some ⟨P.lg, 0, none⟩), .agg #[.int .i64 a.kind, .int .i64 a.thread, .int .i64 a.op, .int .i64 a.n, .int .u64 a.pos, .int .i64 a.code, .slice none 0 0]] w
    fun e w' => e = .returned (.tuple #[]) ∧ ∃ γ', Q532 w0 γ0 S R P la lc q { s with ev := s.ev ++ [a] } f w' γ' := by
  have hl : LogAt 155 162 w γ P.il P.lg s.ev := Its.g1 h
  exact (evNote w γ P.il P.lg s.ev hl hlen a).mono fun e w' hq => Its.one1 h rfl hq
theorem q5_load32 (h : Q532 w0 γ0 S R P la lc q s f w γ) (hf : s.b.Fit M32) (hlen : s.b.log.length ≤ 1000000) (t k : Int) : Calls Tryd.prog 104 #[.pointer (some ⟨P.p, 0, none⟩), .int .i64 t, .int .i64 k] w
    fun e w' => e = .returned (.int .u32 (s.b.load t k).1) ∧ ∃ γ', Q532 w0 γ0 S R P la lc q { s with b := (s.b.load t k).2 } f w' γ' :=
  (bLoad32 w γ P.ib P.p s.b (Its.g0 h) hf.ok hlen t k).mono fun e w' hq => Its.mut0 h hq
theorem q5_store32 (h : Q532 w0 γ0 S R P la lc q s f w γ) (hf : s.b.Fit M32) (hlen : s.b.log.length ≤ 1000000) (t k v : Int) (hv : InM M32 v) : Calls Tryd.prog 31 #[.pointer (some ⟨P.p, 0, none⟩), .int .i64 t, .int .i64 k, .int .u32 v] w
    fun e w' => e = .returned (.tuple #[]) ∧ ∃ γ', Q532 w0 γ0 S R P la lc q { s with b := s.b.store t k v } f w' γ' :=
  (bStore32 w γ P.ib P.p s.b (Its.g0 h) hf.ok hlen t k v hv).mono fun e w' hq => Its.mut0 h hq
theorem q5_swap32 (h : Q532 w0 γ0 S R P la lc q s f w γ) (hf : s.b.Fit M32) (hlen : s.b.log.length ≤ 1000000) (t k old v : Int) (hv : InM M32 v) : Calls Tryd.prog 135 #[.pointer (some ⟨P.p, 0, none⟩), .int .i64 t, .int .i64 k, .int .u32 old, .int .u32 v] w
    fun e w' => e = .returned (.bool (s.b.swap t k old v).1) ∧ ∃ γ', Q532 w0 γ0 S R P la lc q { s with b := (s.b.swap t k old v).2 } f w' γ' :=
  (bSwap32 w γ P.ib P.p s.b (Its.g0 h) hf.ok hlen t k old v hv).mono fun e w' hq => Its.mut0 h hq
theorem q5_add32 (h : Q532 w0 γ0 S R P la lc q s f w γ) (hf : s.b.Fit M32) (hlen : s.b.log.length ≤ 1000000) (t k n : Int) : Calls Tryd.prog 140 #[.pointer (some ⟨P.p, 0, none⟩), .int .i64 t, .int .i64 k, .int .i64 n] w
    fun e w' => e = .returned (.int .u32 (s.b.add M32 t k n).1) ∧ ∃ γ', Q532 w0 γ0 S R P la lc q { s with b := (s.b.add M32 t k n).2 } f w' γ' :=
  (bAdd32 w γ P.ib P.p s.b (Its.g0 h) hf.ok hlen t k n).mono fun e w' hq => Its.mut0 h hq
theorem q5_read32 (h : Q532 w0 γ0 S R P la lc q s f w γ) (hf : s.b.Fit M32) (hlen : s.b.log.length ≤ 1000000) (t k : Int) : Calls Tryd.prog 148 #[.pointer (some ⟨P.p, 0, none⟩), .int .i64 t, .int .i64 k] w
    fun e w' => e = .returned (.int .u32 (s.b.read t k).1) ∧ ∃ γ', Q532 w0 γ0 S R P la lc q { s with b := (s.b.read t k).2 } f w' γ' :=
  (bRead32 w γ P.ib P.p s.b (Its.g0 h) hf.ok hlen t k).mono fun e w' hq => Its.mut0 h hq
theorem q5_write32 (h : Q532 w0 γ0 S R P la lc q s f w γ) (hf : s.b.Fit M32) (hlen : s.b.log.length ≤ 1000000) (t k v : Int) (hv : InM M32 v) : Calls Tryd.prog 150 #[.pointer (some ⟨P.p, 0, none⟩), .int .i64 t, .int .i64 k, .int .u32 v] w
    fun e w' => e = .returned (.tuple #[]) ∧ ∃ γ', Q532 w0 γ0 S R P la lc q { s with b := s.b.write t k v } f w' γ' :=
  (bWrite32 w γ P.ib P.p s.b (Its.g0 h) hf.ok hlen t k v hv).mono fun e w' hq => Its.mut0 h hq
theorem q5_mpublish32 (h : Q532 w0 γ0 S R P la lc q s f w γ) (hf : s.b.Fit M32) (hlen : s.b.log.length ≤ 1000000) (t : Int) (hn : f.n ≤ 9223372036854775807) : Calls Tryd.prog 142 #[.pointer (some ⟨P.p, 0, none⟩), .int .i64 t, .pointer (some ⟨P.fb, P.o, none⟩)] w
    fun e w' => e = .returned (.bool (publishP M32 s.b t f).1) ∧ ∃ γ', Q532 w0 γ0 S R P la lc q { s with b := (publishP M32 s.b t f).2.1 } (publishP M32 s.b t f).2.2 w' γ' := by
  have hne : P.ifr ≠ P.ib := Its.ne03 h
  exact (mpublish32 (P.bf hne) w γ w γ s.b f (Its.bfAt h hne) hf hlen t hn).mono fun e w' hq => Its.bfEnd h hne hq
theorem q5_mseek32 (h : Q532 w0 γ0 S R P la lc q s f w γ) (hf : s.b.Fit M32) (hlen : s.b.log.length ≤ 1000000) (t : Int) (hv : InM M32 f.val) : Calls Tryd.prog 143 #[.pointer (some ⟨P.p, 0, none⟩), .int .i64 t, .pointer (some ⟨P.fb, P.o, none⟩)] w
    fun e w' => e = .returned (.bool (seekP M32 s.b t f).1) ∧ ∃ γ', Q532 w0 γ0 S R P la lc q { s with b := (seekP M32 s.b t f).2.1 } (seekP M32 s.b t f).2.2 w' γ' := by
  have hne : P.ifr ≠ P.ib := Its.ne03 h
  exact (mseek32 (P.bf hne) w γ w γ s.b f (Its.bfAt h hne) hf hlen t hv).mono fun e w' hq => Its.bfEnd h hne hq
theorem q5_enter32 (h : Q532 w0 γ0 S R P la lc q s f w γ) (hf : s.b.Fit M32) (hlen : s.b.log.length ≤ 1000000) (t : Int) : Calls Tryd.prog 147 #[.pointer (some ⟨P.p, 0, none⟩), .int .i64 t, .pointer (some ⟨P.fb, P.o, none⟩)] w
    fun e w' => e = .returned (.bool (enterP M32 s.b t f.pc f.own).1) ∧ ∃ γ', Q532 w0 γ0 S R P la lc q (enter5 M32 t s f).2.1 (enter5 M32 t s f).2.2 w' γ' := by
  have hne : P.ifr ≠ P.ib := Its.ne03 h
  exact (fEnter32 (P.bf hne) w γ w γ s.b f (Its.bfAt h hne) hf.ok hlen t).mono fun e w' hq => Its.bfEnd h hne hq
theorem q5_leave32 (h : Q532 w0 γ0 S R P la lc q s f w γ) (hf : s.b.Fit M32) (hlen : s.b.log.length ≤ 1000000) (t : Int) : Calls Tryd.prog 189 #[.pointer (some ⟨P.p, 0, none⟩), .int .i64 t] w
    fun e w' => e = .returned (.tuple #[]) ∧ ∃ γ', Q532 w0 γ0 S R P la lc q { s with b := leaveP M32 s.b t } f w' γ' :=
  (tLeave32 w γ P.ib P.p s.b (Its.g0 h) hf.ok hlen t).mono fun e w' hq => Its.mut0 h hq
theorem Q532.setPc (h : Q532 w0 γ0 S R P la lc q s f w γ) (x : Int) : Q532 w0 γ0 S R P la lc q s { f with pc := x } (w.setCell ⟨P.fb, P.o + 3, none⟩ (.int .i64 x)) γ := Its.setPc h x
theorem Q532.setI (h : Q532 w0 γ0 S R P la lc q s f w γ) (x : Int) : Q532 w0 γ0 S R P la lc q s { f with i := x } (w.setCell ⟨P.fb, P.o + 4, none⟩ (.int .i64 x)) γ := Its.setI h x
theorem Q532.setJ (h : Q532 w0 γ0 S R P la lc q s f w γ) (x : Int) : Q532 w0 γ0 S R P la lc q s { f with j := x } (w.setCell ⟨P.fb, P.o + 5, none⟩ (.int .i64 x)) γ := Its.setJ h x
theorem Q532.setFrom (h : Q532 w0 γ0 S R P la lc q s f w γ) (x : Int) : Q532 w0 γ0 S R P la lc q s { f with from_ := x } (w.setCell ⟨P.fb, P.o + 6, none⟩ (.int .u32 x)) γ := Its.setFrom h x
theorem Q532.setVal (h : Q532 w0 γ0 S R P la lc q s f w γ) (x : Int) : Q532 w0 γ0 S R P la lc q s { f with val := x } (w.setCell ⟨P.fb, P.o + 8, none⟩ (.int .u32 x)) γ := Its.setVal h x
theorem Q532.setLst {lb : Nat} (h : Q532 w0 γ0 S R P (some ⟨lb, 0, none⟩) lc q s f w γ) (k : Nat) (x : Int) : Q532 w0 γ0 S R P (some ⟨lb, 0, none⟩) lc q (s.know k x) f (w.setCell ⟨lb, k, none⟩ (.int .u32 x)) γ := Its.setLst (by decide) (by decide) h k x
end
theorem next_seqlock32 (w : World) (g fb o lb k n lc : Nat) (cap from_ nn least other : Int) (hk : k < n) (h4 : w.cell? ⟨g, 4, none⟩ = some (.int .i64 cap)) (h10 : w.cell? ⟨g, 10, none⟩ = some (.slice (some ⟨lb, 0, none⟩) n lc)) (hl : w.cell? ⟨lb, k, none⟩ = some (.int .u32 least)) (h1 : w.cell? ⟨fb, o + 1, none⟩ = some (.int .i64 nn)) (h6 : w.cell? ⟨fb, o + 6, none⟩ = some (.int .u32 from_)) :
    Calls Tryd.prog 149 #[.pointer (some ⟨g, 0, none⟩), .int .i64 k, .pointer (some ⟨fb, o, none⟩), .int .i64 other] w fun e w' => e = .returned (.int .i64 (if fitsP M32 cap from_ nn least then 4 else other)) ∧ ∃ m, w' = w.drewN m := by
  have hkn : (k : Int) < n := by omega
  have hgf := fun W => gfits32 cap from_ nn least W
  cases hf : fitsP M32 cap from_ nn least
  all_goals
    rw [hf] at hgf
    have HF := Lib.hid hgf
    clear hf hk hgf
    go_enter Tryd.func149, Tryd.ntmps149
    go_wp2_with fail
    go_quiet ((go_at_call 94; exact quiet_left (HF.out _)))
    go_wp2_with fail
    go_ret
    exact ⟨rfl, _, rfl⟩
section
set_option maxRecDepth 100000
variable {w0 w w' : World} {γ0 γ : Nat → Nat} {S : Nat → Prop} {R : List It} {P : QP} {la : Option Addr} {lc : Nat} {q : SqC} {s : SqN} {f f' : FrS} {k : Nat}
theorem q5_leaveF32 (h : Q532 w0 γ0 S R P la lc q s f w γ) (hf : s.b.Fit M32) (hlen : s.b.log.length ≤ 1000000) (t : Int) :
    Calls Tryd.prog 151 #[.pointer (some ⟨P.g, 0, none⟩), .int .i64 t, .pointer (some ⟨P.fb, P.o, none⟩)] w (Q5End32 w0 γ0 S R P la lc q (leave5 M32 t s f)) := by
  unfold leave5
  obtain ⟨g0, g1, g4, g5, g8, g9, g10, hg⟩ := h.seq
  obtain ⟨r1, r3, r4, r6, r7, r8, r5, zr, hr⟩ := h.reg
  have H := Lib.hid h
  have HLE := Lib.hid (fun W (hW : Q532 w0 γ0 S R P la lc q s f W γ) => q5_leave32 hW hf hlen t)
  clear h hf hlen
  go_enter Tryd.func151, Tryd.ntmps151
  go_wp2_with (go_at_call 189; refine (HLE.out _ (H.out.bel (by repeat (with_reducible first | exact Below.refl _ _ | refine Below.drew ?_ | refine below_drewN ?_ _)))).mono ?_; rintro e w3 ⟨rfl, γ3, h3⟩; obtain ⟨g0k, g1k, g4k, g5k, g8k, g9k, g10k, hgk⟩ := h3.seq; obtain ⟨r1k, r3k, r4k, r6k, r7k, r8k, r5k, zrk, hrk⟩ := h3.reg; (try dsimp only at r1k r3k r4k r6k r7k r8k r5k); have H3 := Lib.hid h3; clear h3)
  go_ret
  exact ⟨ret_boolM (by by_cases h6 : f.pc = 6 <;> simp [h6]), γ3, H3.out.setPc 0⟩
end
section
set_option maxRecDepth 100000
variable {w0 w w' : World} {γ0 γ : Nat → Nat} {S : Nat → Prop} {R : List It} {P : QP} {la : Option Addr} {lc : Nat} {q : SqC} {s : SqN} {f f' : FrS} {k : Nat}
theorem q5_claimN32 (h : Q532 w0 γ0 S R P la lc q s f w γ) (t : Int) (hm : mayP q t f = false) :
    Calls Tryd.prog 79 #[.pointer (some ⟨P.g, 0, none⟩), .int .i64 t, .pointer (some ⟨P.fb, P.o, none⟩)] w (Q5End32 w0 γ0 S R P la lc q (true, s, f)) := by
  have H := Lib.hid h
  have HM := Lib.hid hm
  clear h hm
  go_enter Tryd.func79, Tryd.ntmps79
  go_wp2_with fail
  go_step3
  go_wp2_with (go_at_call 146; refine (q5_may32 H.out _).mono ?_; rintro e w' ⟨rfl, m, rfl⟩; rw [HM.out])
  try rw [Exit.noGoto_ret]
  go_ret
  exact ⟨rfl, γ, H.out.drewN m⟩
theorem q5_claimE32 (h : Q532 w0 γ0 S R P la lc q s f w γ) (hf : s.b.Fit M32) (hlen : s.b.log.length ≤ 1000000) (t : Int) (hm : mayP q t f = true) (hp : f.pc ≠ 2 ∧ f.pc ≠ 3 ∧ f.pc ≠ 4 ∧ f.pc ≠ 5 ∧ f.pc ≠ 6) :
    Calls Tryd.prog 79 #[.pointer (some ⟨P.g, 0, none⟩), .int .i64 t, .pointer (some ⟨P.fb, P.o, none⟩)] w (Q5End32 w0 γ0 S R P la lc q (enter5 M32 t s f)) := by
  have HEN := Lib.hid (fun W (hW : Q532 w0 γ0 S R P la lc q s f W γ) => q5_enter32 hW hf hlen t)
  obtain ⟨g0, g1, g4, g5, g8, g9, g10, hg⟩ := h.seq
  obtain ⟨r1, r3, r4, r6, r7, r8, r5, zr, hr⟩ := h.reg
  have H := Lib.hid h
  have HM := Lib.hid hm
  have hb2 : (f.pc == 2) = false := by simp [hp.1]
  have hb3 : (f.pc == 3) = false := by simp [hp.2.1]
  have hb4 : (f.pc == 4) = false := by simp [hp.2.2.1]
  have hb5 : (f.pc == 5) = false := by simp [hp.2.2.2.1]
  have hb6 : (f.pc == 6) = false := by simp [hp.2.2.2.2]
  clear h hm hf hlen hp
  go_enter Tryd.func79, Tryd.ntmps79
  go_wp2_with fail
  go_step3
  go_wp2_with (first
    | (go_at_call 146; refine (q5_may32 H.out _).mono ?_; rintro e w' ⟨rfl, m, rfl⟩; rw [HM.out])
    | (go_at_call 147; refine (HEN.out _ (H.out.bel (by repeat (with_reducible first | exact Below.refl _ _ | refine Below.drew ?_ | refine below_drewN ?_ _)))).mono ?_; rintro e w3 ⟨rfl, γ3, h3⟩; have H3 := Lib.hid h3; clear h3))
  try rw [Exit.noGoto_ret]
  go_ret
  exact ⟨rfl, γ3, H3.out⟩
theorem q5_claimL532 (h : Q532 w0 γ0 S R P la lc q s f w γ) (hf : s.b.Fit M32) (hlen : s.b.log.length ≤ 1000000) (t : Int) (hm : mayP q t f = true) (hp : f.pc = 5) :
    Calls Tryd.prog 79 #[.pointer (some ⟨P.g, 0, none⟩), .int .i64 t, .pointer (some ⟨P.fb, P.o, none⟩)] w (Q5End32 w0 γ0 S R P la lc q (leave5 M32 t s f)) := by
  have HLV := Lib.hid (fun W (hW : Q532 w0 γ0 S R P la lc q s f W γ) => q5_leaveF32 hW hf hlen t)
  obtain ⟨g0, g1, g4, g5, g8, g9, g10, hg⟩ := h.seq
  obtain ⟨r1, r3, r4, r6, r7, r8, r5, zr, hr⟩ := h.reg
  have H := Lib.hid h
  have HM := Lib.hid hm
  have hb2 : (f.pc == 2) = false := by simp [hp]
  have hb3 : (f.pc == 3) = false := by simp [hp]
  have hb4 : (f.pc == 4) = false := by simp [hp]
  have hb5 : (f.pc == 5) = true := by simp [hp]
  clear h hm hf hlen hp
  go_enter Tryd.func79, Tryd.ntmps79
  go_wp2_with fail
  refine wp_scope_once 3 rfl ?_
  go_wp2_with (go_at_call 146; refine (q5_may32 H.out _).mono ?_; rintro e w' ⟨rfl, m, rfl⟩; rw [HM.out])
  go_step3
  try simp only [Exit.then, Exit.inBlock]
  refine ⟨rfl, ?_⟩
  go_wp2_with fail
  try go_step3
  go_wp2_with fail
  go_wp2_with (go_at_call 151; refine (HLV.out _ (H.out.bel (by repeat (with_reducible first | exact Below.refl _ _ | refine Below.drew ?_ | refine below_drewN ?_ _)))).mono ?_; rintro e w3 ⟨rfl, γ3, h3⟩; have H3 := Lib.hid h3; clear h3)
  try rw [Exit.noGoto_ret]
  go_ret
  exact ⟨rfl, γ3, H3.out⟩
theorem q5_claimL632 (h : Q532 w0 γ0 S R P la lc q s f w γ) (hf : s.b.Fit M32) (hlen : s.b.log.length ≤ 1000000) (t : Int) (hm : mayP q t f = true) (hp : f.pc = 6) :
    Calls Tryd.prog 79 #[.pointer (some ⟨P.g, 0, none⟩), .int .i64 t, .pointer (some ⟨P.fb, P.o, none⟩)] w (Q5End32 w0 γ0 S R P la lc q (leave5 M32 t s f)) := by
  have HLV := Lib.hid (fun W (hW : Q532 w0 γ0 S R P la lc q s f W γ) => q5_leaveF32 hW hf hlen t)
  obtain ⟨g0, g1, g4, g5, g8, g9, g10, hg⟩ := h.seq
  obtain ⟨r1, r3, r4, r6, r7, r8, r5, zr, hr⟩ := h.reg
  have H := Lib.hid h
  have HM := Lib.hid hm
  have hb2 : (f.pc == 2) = false := by simp [hp]
  have hb3 : (f.pc == 3) = false := by simp [hp]
  have hb4 : (f.pc == 4) = false := by simp [hp]
  have hb5 : (f.pc == 5) = false := by simp [hp]
  have hb6 : (f.pc == 6) = true := by simp [hp]
  clear h hm hf hlen hp
  go_enter Tryd.func79, Tryd.ntmps79
  go_wp2_with fail
  refine wp_scope_once 3 rfl ?_
  go_wp2_with (go_at_call 146; refine (q5_may32 H.out _).mono ?_; rintro e w' ⟨rfl, m, rfl⟩; rw [HM.out])
  go_step3
  try simp only [Exit.then, Exit.inBlock]
  refine ⟨rfl, ?_⟩
  go_wp2_with fail
  try go_step3
  go_wp2_with fail
  go_wp2_with (go_at_call 151; refine (HLV.out _ (H.out.bel (by repeat (with_reducible first | exact Below.refl _ _ | refine Below.drew ?_ | refine below_drewN ?_ _)))).mono ?_; rintro e w3 ⟨rfl, γ3, h3⟩; have H3 := Lib.hid h3; clear h3)
  try rw [Exit.noGoto_ret]
  go_ret
  exact ⟨rfl, γ3, H3.out⟩
theorem q5_claimB32 (h : Q532 w0 γ0 S R P la lc q s f w γ) (hf : s.b.Fit M32) (hlen : s.b.log.length ≤ 1000000) (hel : s.ev.length ≤ 999998) (hen : q.ends.length ≤ 1000000) (hk : k < s.least.length) (hm : mayP q k f = true) (hp : f.pc = 2) :
    Calls Tryd.prog 79 #[.pointer (some ⟨P.g, 0, none⟩), .int .i64 k, .pointer (some ⟨P.fb, P.o, none⟩)] w (Q5End32 w0 γ0 S R P la lc q (read5 M32 q k s f)) := by
  have HLD := Lib.hid (fun W (hW : Q532 w0 γ0 S R P la lc q s f W γ) => q5_read32 hW hf hlen k q.cell)
  obtain ⟨hne1, hne2⟩ := h.ne
  obtain ⟨lb, rfl, hlb, lc0, lz0⟩ := h.row hk
  obtain ⟨ln1, ln2, ln3, ln4⟩ := h.rowne
  obtain ⟨g0, g1, g4, g5, g8, g9, g10, hg⟩ := h.seq
  obtain ⟨r1, r3, r4, r6, r7, r8, r5, zr, hr⟩ := h.reg
  have H := Lib.hid h
  have HM := Lib.hid hm
  have HK := Lib.hid hk
  have hkn : (k : Int) < s.least.length := by omega
  have hb2 : (f.pc == 2) = true := by simp [hp]
  unfold read5 nextQ fitsQ
  generalize s.b.read k q.cell = r at *
  obtain ⟨x, b2⟩ := r
  dsimp only at *
  obtain ⟨pv, hpv⟩ : ∃ y, y = (if fitsP M32 q.c.cap x f.n (s.lst k) then (4 : Int) else 3) := ⟨_, rfl⟩
  rw [show (if fitsP M32 q.c.cap x f.n (SqN.lst s k) = true then (4 : Int) else 3) = pv from hpv.symm]
  have HPV := Lib.hid hpv
  clear h hm hf hlen hel hen hp hk hpv
  go_enter Tryd.func79, Tryd.ntmps79
  go_wp2_with fail
  refine wp_scope_once 0 rfl ?_
  go_wp2_with (go_at_call 146; refine (q5_may32 H.out _).mono ?_; rintro e w' ⟨rfl, m, rfl⟩; rw [HM.out])
  go_step3
  try simp only [Exit.then, Exit.inBlock]
  refine ⟨rfl, ?_⟩
  go_wp2_with fail
  try go_step3
  go_wp2_with fail
  have hG := H.out.drewN m
  generalize w.drewN m = W1 at hG ⊢
  clear g0 g1 g4 g5 g8 g9 g10 hg r1 r3 r4 r6 r7 r8 r5 zr hr
  clear lc0 lz0 hlb
  obtain ⟨g0, g1, g4, g5, g8, g9, g10, hg⟩ := hG.seq
  obtain ⟨r1, r3, r4, r6, r7, r8, r5, zr, hr⟩ := hG.reg
  have HSC := Lib.hid (fun W (hW : Below W1.heap.size W1 W) => HLD.out W (hG.bel hW))
  clear hG
  go_region_held3 (fun w' => w'.cell? ⟨P.g, 0, none⟩ = some (.pointer (some ⟨P.p, 0, none⟩)) ∧ w'.cell? ⟨P.g, 9, none⟩ = some (.int .i64 q.cell)) (go_keep) (first
    | (go_at_call 148; refine (HSC.out _ (by repeat (with_reducible first | exact Below.refl _ _ | refine Below.drew ?_ | refine below_drewN ?_ _))).mono ?_; rintro e w3 ⟨rfl, γ3, h3⟩; obtain ⟨g0k, g1k, g4k, g5k, g8k, g9k, g10k, hgk⟩ := h3.seq; obtain ⟨r1k, r3k, r4k, r6k, r7k, r8k, r5k, zrk, hrk⟩ := h3.reg; (try dsimp only at r1k r3k r4k r6k r7k r8k r5k); have H3 := Lib.hid h3; clear h3))
  have hA := (H3.out.setFrom x).setI 0
  generalize ((w3.setCell ⟨P.fb, P.o + 6, none⟩ (.int .u32 x)).setCell ⟨P.fb, P.o + 4, none⟩ (.int .i64 0)) = W2 at hA ⊢
  clear g0 g1 g4 g5 g8 g9 g10 hg r1 r3 r4 r6 r7 r8 r5 zr hr
  clear g0k g1k g4k g5k g8k g9k g10k hgk r1k r3k r4k r6k r7k r8k r5k zrk hrk
  obtain ⟨g0, g1, g4, g5, g8, g9, g10, hg⟩ := hA.seq
  obtain ⟨r1, r3, r4, r6, r7, r8, r5, zr, hr⟩ := hA.reg
  obtain ⟨lb', he, hlb, lc0, lz0⟩ := hA.row HK.out
  cases he
  have HA := Lib.hid hA
  have HK4 := Lib.hid g4
  clear hA
  go_wp2_with (go_at_call 149; refine (next_seqlock32 W2 P.g P.fb P.o lb k s.least.length lc q.c.cap x f.n (s.lst k) 3 HK.out HK4.out g10 lc0 r1 r6).mono ?_; rintro e w' ⟨rfl, m2, rfl⟩; rw [← HPV.out])
  try rw [Exit.noGoto_ret]
  go_ret
  exact ⟨rfl, γ3, (HA.out.drewN m2).setPc pv⟩
theorem q5_claimS32 (h : Q532 w0 γ0 S R P la lc q s f w γ) (hf : s.b.Fit M32) (hlen : s.b.log.length ≤ 1000000) (hel : s.ev.length ≤ 999998) (hen : q.ends.length ≤ 1000000) (hfi : InM M32 f.from_) (hk : k < s.least.length) (hm : mayP q k f = true) (hp1 : f.pc = 3) :
    Calls Tryd.prog 79 #[.pointer (some ⟨P.g, 0, none⟩), .int .i64 k, .pointer (some ⟨P.fb, P.o, none⟩)] w (Q5End32 w0 γ0 S R P la lc q (scan5 M32 q k s f)) := by
  have hs0 := fun W (hW : Q532 w0 γ0 S R P la lc q s f W γ) => q5_scan32 hW hf hlen hen k
  have hb1 : (f.pc == 3) = true := by simp [hp1]
  have hb0 : (f.pc == 2) = false := by simp [hp1]
  obtain ⟨hne1, hne2⟩ := h.ne
  obtain ⟨lb, rfl, hlb, lc0, lz0⟩ := h.row hk
  obtain ⟨ln1, ln2, ln3, ln4⟩ := h.rowne
  obtain ⟨g0, g1, g4, g5, g8, g9, g10, hg⟩ := h.seq
  obtain ⟨r1, r3, r4, r6, r7, r8, r5, zr, hr⟩ := h.reg
  have H := Lib.hid h
  have HM := Lib.hid hm
  have HK := Lib.hid hk
  have hkn : (k : Int) < s.least.length := by omega
  unfold scan5 SqN.scan
  generalize scanP M32 s.b k q.ends f = r at *
  obtain ⟨d, b2, f2⟩ := r
  dsimp only at *
  have HS0 := Lib.hid hs0
  clear h hm hf hlen hel hen hp1 hk hs0 hfi
  cases d
  · simp only [if_pos rfl]
    go_enter Tryd.func79, Tryd.ntmps79
    go_wp2_with fail
    refine wp_scope_once 1 rfl ?_
    go_wp2_with (go_at_call 146; refine (q5_may32 H.out _).mono ?_; rintro e w' ⟨rfl, m, rfl⟩; rw [HM.out])
    go_step3
    try simp only [Exit.then, Exit.inBlock]
    refine ⟨rfl, ?_⟩
    go_wp2_with fail
    try go_step3
    go_wp2_with fail
    have hG := H.out.drewN m
    generalize w.drewN m = W1 at hG ⊢
    clear g0 g1 g4 g5 g8 g9 g10 hg r1 r3 r4 r6 r7 r8 r5 zr hr
    clear lc0 lz0 hlb
    obtain ⟨g0, g1, g4, g5, g8, g9, g10, hg⟩ := hG.seq
    obtain ⟨r1, r3, r4, r6, r7, r8, r5, zr, hr⟩ := hG.reg
    try dsimp only at r1 r3 r4 r6 r7 r8 r5
    have HSC := Lib.hid (fun W (hW : Below W1.heap.size W1 W) => HS0.out W (hG.bel hW))
    clear hG
    go_region_held3 (fun w' => w'.cell? ⟨P.g, 0, none⟩ = some (.pointer (some ⟨P.p, 0, none⟩)) ∧ w'.cell? ⟨P.g, 8, none⟩ = some (.slice q.ea q.ends.length q.ec)) (go_keep) (first
      | (go_at_call 37; refine (HSC.out _ (by repeat (with_reducible first | exact Below.refl _ _ | refine Below.drew ?_ | refine below_drewN ?_ _))).mono ?_; rintro e w3 ⟨rfl, γ3, h3⟩; obtain ⟨g0k, g1k, g4k, g5k, g8k, g9k, g10k, hgk⟩ := h3.seq; obtain ⟨r1k, r3k, r4k, r6k, r7k, r8k, r5k, zrk, hrk⟩ := h3.reg; (try dsimp only at r1k r3k r4k r6k r7k r8k r5k); have H3 := Lib.hid h3; clear h3))
    go_wp2_with fail
    try rw [Exit.noGoto_ret]
    go_ret
    exact ⟨rfl, γ3, H3.out⟩
  · simp only [Bool.true_eq_false, if_false]
    obtain ⟨pv, hpv⟩ : ∃ y, y = nextQ M32 q (SqN.know { b := b2, ev := s.ev, least := s.least } k f2.min) k f2 4 5 := ⟨_, rfl⟩
    rw [show nextQ M32 q { b := b2, ev := s.ev, least := s.least.set (k : Int).toNat f2.min } k f2 4 5 = pv from hpv.symm]
    unfold nextQ fitsQ at hpv
    have HPV := Lib.hid hpv
    clear hpv
    go_enter Tryd.func79, Tryd.ntmps79
    go_wp2_with fail
    refine wp_scope_once 1 rfl ?_
    go_wp2_with (go_at_call 146; refine (q5_may32 H.out _).mono ?_; rintro e w' ⟨rfl, m, rfl⟩; rw [HM.out])
    go_step3
    try simp only [Exit.then, Exit.inBlock]
    refine ⟨rfl, ?_⟩
    go_wp2_with fail
    try go_step3
    go_wp2_with fail
    have hG := H.out.drewN m
    generalize w.drewN m = W1 at hG ⊢
    clear g0 g1 g4 g5 g8 g9 g10 hg r1 r3 r4 r6 r7 r8 r5 zr hr
    clear lc0 lz0 hlb
    obtain ⟨g0, g1, g4, g5, g8, g9, g10, hg⟩ := hG.seq
    obtain ⟨r1, r3, r4, r6, r7, r8, r5, zr, hr⟩ := hG.reg
    try dsimp only at r1 r3 r4 r6 r7 r8 r5
    have HSC := Lib.hid (fun W (hW : Below W1.heap.size W1 W) => HS0.out W (hG.bel hW))
    clear hG
    go_region_held3 (fun w' => w'.cell? ⟨P.g, 0, none⟩ = some (.pointer (some ⟨P.p, 0, none⟩)) ∧ w'.cell? ⟨P.g, 8, none⟩ = some (.slice q.ea q.ends.length q.ec)) (go_keep) (first
      | (go_at_call 37; refine (HSC.out _ (by repeat (with_reducible first | exact Below.refl _ _ | refine Below.drew ?_ | refine below_drewN ?_ _))).mono ?_; rintro e w3 ⟨rfl, γ3, h3⟩; obtain ⟨g0k, g1k, g4k, g5k, g8k, g9k, g10k, hgk⟩ := h3.seq; obtain ⟨r1k, r3k, r4k, r6k, r7k, r8k, r5k, zrk, hrk⟩ := h3.reg; (try dsimp only at r1k r3k r4k r6k r7k r8k r5k); have H3 := Lib.hid h3; clear h3))
    go_wp2_with fail
    obtain ⟨lb', he, hlb, lc0, lz0⟩ := H3.out.row HK.out
    cases he
    clear g0 g1 g4 g5 g8 g9 g10 hg r1 r3 r4 r6 r7 r8 r5 zr hr
    go_region_held3 (fun w' => w'.cell? ⟨P.g, 10, none⟩ = some (.slice (some ⟨lb, 0, none⟩) s.least.length lc) ∧ w'.cell? ⟨P.fb, P.o + 7, none⟩ = some (.int .u32 f2.min)) (go_keep) (first
      | fail)
    have hA := (H3.out.setLst k f2.min).drew
    generalize (w3.setCell ⟨lb, k, none⟩ (.int .u32 f2.min)).drew = W2 at hA ⊢
    clear g0k g1k g4k g5k g8k g9k g10k hgk r1k r3k r4k r6k r7k r8k r5k zrk hrk
    clear lc0 lz0 hlb
    obtain ⟨g0, g1, g4, g5, g8, g9, g10, hg⟩ := hA.seq
    obtain ⟨r1, r3, r4, r6, r7, r8, r5, zr, hr⟩ := hA.reg
    have hk2 : k < (s.least.set k f2.min).length := by rw [List.length_set]; exact HK.out
    obtain ⟨lb', he, hlb, lc0, lz0⟩ := hA.row hk2
    cases he
    have HA := Lib.hid hA
    have HK4 := Lib.hid g4
    have HK2 := Lib.hid hk2
    clear hA hk2
    go_wp2_with (go_at_call 149; refine (next_seqlock32 W2 P.g P.fb P.o lb k _ lc q.c.cap f2.from_ f2.n _ 5 HK2.out HK4.out g10 lc0 r1 r6).mono ?_; rintro e w' ⟨rfl, m2, rfl⟩; rw [← HPV.out])
    try rw [Exit.noGoto_ret]
    go_ret
    exact ⟨rfl, γ3, (HA.out.drewN m2).setPc pv⟩
theorem q5_claimW32 (h : Q532 w0 γ0 S R P la lc q s f w γ) (hf : s.b.Fit M32) (hlen : s.b.log.length ≤ 1000000) (hel : s.ev.length ≤ 999998) (hen : q.ends.length ≤ 1000000) (hfi : InM M32 f.from_) (hk : k < s.least.length) (hm : mayP q k f = true) (hp : f.pc = 4) :
    Calls Tryd.prog 79 #[.pointer (some ⟨P.g, 0, none⟩), .int .i64 k, .pointer (some ⟨P.fb, P.o, none⟩)] w (Q5End32 w0 γ0 S R P la lc q (write5 M32 q k s f)) := by
  have HWR := Lib.hid (fun W (hW : Q532 w0 γ0 S R P la lc q s f W γ) => q5_write32 hW hf hlen k q.cell (addM M32 f.from_ f.n) (addM_in32 _ _))
  have HUF := Lib.hid hfi
  have hb2 : (f.pc == 2) = false := by simp [hp]
  have hb3 : (f.pc == 3) = false := by simp [hp]
  have hb4 : (f.pc == 4) = true := by simp [hp]
  have HE1 := Lib.hid (show s.ev.length ≤ 1000000 by omega)
  have HE2 := Lib.hid (fun a : Ev => show (s.ev ++ [a]).length ≤ 1000000 by rw [List.length_append, List.length_singleton]; omega)
  obtain ⟨hne1, hne2⟩ := h.ne
  obtain ⟨lb, rfl, hlb, lc0, lz0⟩ := h.row hk
  obtain ⟨ln1, ln2, ln3, ln4⟩ := h.rowne
  obtain ⟨g0, g1, g4, g5, g8, g9, g10, hg⟩ := h.seq
  obtain ⟨r1, r3, r4, r6, r7, r8, r5, zr, hr⟩ := h.reg
  have H := Lib.hid h
  have HM := Lib.hid hm
  have HK := Lib.hid hk
  have hkn : (k : Int) < s.least.length := by omega
  unfold write5
  generalize s.b.write k q.cell (addM M32 f.from_ f.n) = b2 at *
  clear h hm hf hlen hel hen hp hk hfi
  go_enter Tryd.func79, Tryd.ntmps79
  go_wp2_with fail
  refine wp_scope_once 2 rfl ?_
  go_wp2_with (go_at_call 146; refine (q5_may32 H.out _).mono ?_; rintro e w' ⟨rfl, m, rfl⟩; rw [HM.out])
  go_step3
  try simp only [Exit.then, Exit.inBlock]
  refine ⟨rfl, ?_⟩
  go_wp2_with fail
  try go_step3
  go_wp2_with fail
  have hG := H.out.drewN m
  generalize w.drewN m = W1 at hG ⊢
  clear g0 g1 g4 g5 g8 g9 g10 hg r1 r3 r4 r6 r7 r8 r5 zr hr
  clear lc0 lz0 hlb
  obtain ⟨g0, g1, g4, g5, g8, g9, g10, hg⟩ := hG.seq
  obtain ⟨r1, r3, r4, r6, r7, r8, r5, zr, hr⟩ := hG.reg
  try dsimp only at r1 r3 r4 r6 r7 r8 r5
  have HSC := Lib.hid (fun W (hW : Below W1.heap.size W1 W) => HWR.out W (hG.bel hW))
  clear hG
  go_region_held3 (fun w' => w'.cell? ⟨P.g, 0, none⟩ = some (.pointer (some ⟨P.p, 0, none⟩)) ∧ w'.cell? ⟨P.g, 9, none⟩ = some (.int .i64 q.cell) ∧ w'.cell? ⟨P.fb, P.o + 1, none⟩ = some (.int .i64 f.n) ∧ w'.cell? ⟨P.fb, P.o + 6, none⟩ = some (.int .u32 f.from_)) (go_keep) (first
    | (go_at_call 35; refine (add32 _ _ _).mono ?_; rintro e w' ⟨rfl, rfl⟩)
    | (go_at_call 150; refine (HSC.out _ (by repeat (with_reducible first | exact Below.refl _ _ | refine Below.drew ?_ | refine below_drewN ?_ _))).mono ?_; rintro e w3 ⟨rfl, γ3, h3⟩; obtain ⟨g0k, g1k, g4k, g5k, g8k, g9k, g10k, hgk⟩ := h3.seq; obtain ⟨r1k, r3k, r4k, r6k, r7k, r8k, r5k, zrk, hrk⟩ := h3.reg; (try dsimp only at r1k r3k r4k r6k r7k r8k r5k); have H3 := Lib.hid h3; clear h3))
  go_wp2_with fail
  clear g0 g1 g4 g5 g8 g9 g10 hg r1 r3 r4 r6 r7 r8 r5 zr hr
  have HNT := Lib.hid (fun W (hW : Below w3.heap.size w3 W) => q5_note32 (H3.out.bel hW) HE1.out ⟨3, k, 0, f.n, f.from_, 0⟩)
  go_region_held3 (fun w' => w'.cell? ⟨P.g, 1, none⟩ = some (.pointer (some ⟨P.lg, 0, none⟩)) ∧ w'.cell? ⟨P.fb, P.o + 1, none⟩ = some (.int .i64 f.n) ∧ w'.cell? ⟨P.fb, P.o + 6, none⟩ = some (.int .u32 f.from_)) (go_keep) (first
    | (go_at_call 103; refine (up32 _ HUF.out _).mono ?_; rintro e w' ⟨rfl, rfl⟩)
    | (go_at_call 127; refine (HNT.out _ (by repeat (with_reducible first | exact Below.refl _ _ | refine Below.drew ?_ | refine below_drewN ?_ _))).mono ?_; rintro e w5 ⟨rfl, γ5, h5⟩; obtain ⟨g0n, g1n, g4n, g5n, g8n, g9n, g10n, hgn⟩ := h5.seq; obtain ⟨r1n, r3n, r4n, r6n, r7n, r8n, r5n, zrn, hrn⟩ := h5.reg; (try dsimp only at r1n r3n r4n r6n r7n r8n r5n); have H5 := Lib.hid h5; clear h5))
  go_wp2_with (go_at_call 127; refine (q5_note32 H5.out (HE2.out _) ⟨4, k, 0, 0, 0, 0⟩).mono ?_; rintro e w6 ⟨rfl, γ6, h6⟩; obtain ⟨g0z, g1z, g4z, g5z, g8z, g9z, g10z, hgz⟩ := h6.seq; obtain ⟨r1z, r3z, r4z, r6z, r7z, r8z, r5z, zrz, hrz⟩ := h6.reg; (try dsimp only at r1z r3z r4z r6z r7z r8z r5z); have H6 := Lib.hid h6; clear h6)
  try rw [Exit.noGoto_ret]
  go_ret
  exact ⟨rfl, γ6, H6.out.setPc 6⟩
theorem q5_claim32 (h : Q532 w0 γ0 S R P la lc q s f w γ) (hf : s.b.Fit M32) (hlen : s.b.log.length ≤ 1000000) (hel : s.ev.length ≤ 999998) (hen : q.ends.length ≤ 1000000) (hcap : q.c.cap ≤ 64) (hfi : InM M32 f.from_) (hj : 0 ≤ f.j ∧ f.j ≤ 1000000) (hl : (s.least.length : Int) = q.c.producers) (hbl : s.b.l.c = q.c) (t : Int) :
    Calls Tryd.prog 79 #[.pointer (some ⟨P.g, 0, none⟩), .int .i64 t, .pointer (some ⟨P.fb, P.o, none⟩)] w (Q5End32 w0 γ0 S R P la lc q (claim5 M32 q t s f)) := by
  unfold claim5
  cases hm : mayP q t f
  · rw [if_pos rfl]; exact q5_claimN32 h t hm
  · rw [if_neg (by decide)]
    have hb := (of_decide_eq_true hm : 0 ≤ t ∧ t < q.c.producers ∧ 1 ≤ f.n ∧ f.n ≤ q.c.cap)
    obtain ⟨k, rfl⟩ := Int.eq_ofNat_of_zero_le hb.1
    have hk : k < s.least.length := by omega
    by_cases h2 : f.pc = 2
    · rw [if_pos h2]; exact q5_claimB32 h hf hlen hel hen hk hm h2
    · rw [if_neg h2]
      by_cases h3 : f.pc = 3
      · rw [if_pos h3]; exact q5_claimS32 h hf hlen hel hen hfi hk hm h3
      · rw [if_neg h3]
        by_cases h4 : f.pc = 4
        · rw [if_pos h4]; exact q5_claimW32 h hf hlen hel hen hfi hk hm h4
        · rw [if_neg h4]
          by_cases h5 : f.pc = 5
          · rw [if_pos (.inl h5)]; exact q5_claimL532 h hf hlen k hm h5
          · by_cases h6 : f.pc = 6
            · rw [if_pos (.inr h6)]; exact q5_claimL632 h hf hlen k hm h6
            · rw [if_neg (fun hh => hh.elim h5 h6)]; exact q5_claimE32 h hf hlen k hm ⟨h2, h3, h4, h5, h6⟩
end
section
set_option maxRecDepth 100000
variable {w0 w w' : World} {γ0 γ : Nat → Nat} {S : Nat → Prop} {R : List It} {P : QP} {la : Option Addr} {lc : Nat} {q : SqC} {s : SqN} {f f' : FrS} {k : Nat}
theorem q5_publish32 (h : Q532 w0 γ0 S R P la lc q s f w γ) (hf : s.b.Fit M32) (hlen : s.b.log.length ≤ 1000000) (hel : s.ev.length ≤ 999998) (hen : q.ends.length ≤ 1000000) (hcap : q.c.cap ≤ 64) (hfi : InM M32 f.from_) (t : Int) :
    Calls Tryd.prog 80 #[.pointer (some ⟨P.g, 0, none⟩), .int .i64 t, .pointer (some ⟨P.fb, P.o, none⟩)] w (Q5End32 w0 γ0 S R P la lc q (publish5 M32 q t s f)) := by
  unfold publish5
  obtain ⟨hne1, hne2⟩ := h.ne
  obtain ⟨g0, g1, g4, g5, g8, g9, g10, hg⟩ := h.seq
  obtain ⟨r1, r3, r4, r6, r7, r8, r5, zr, hr⟩ := h.reg
  have H := Lib.hid h
  cases hm : mayP q t f
  · rw [if_pos rfl]
    have HM := Lib.hid hm
    clear h hm
    go_enter Tryd.func80, Tryd.ntmps80
    go_wp2_with (go_at_call 146; refine (q5_may32 H.out _).mono ?_; rintro e w' ⟨rfl, m, rfl⟩; rw [HM.out])
    go_ret
    exact ⟨rfl, γ, H.out.drewN m⟩
  · rw [if_neg (by decide)]
    have HM := Lib.hid hm
    by_cases h6 : f.pc = 6
    · rw [if_pos h6]
      have HLV := Lib.hid (fun W (hW : Q532 w0 γ0 S R P la lc q s f W γ) => q5_leaveF32 hW hf hlen t)
      have hb6 : (f.pc == 6) = true := by simp [h6]
      clear h hm hel hf hlen hen hfi hcap h6
      go_enter Tryd.func80, Tryd.ntmps80
      go_wp2_with (first
        | (go_at_call 146; refine (q5_may32 H.out _).mono ?_; rintro e w' ⟨rfl, m, rfl⟩; rw [HM.out])
        | (go_at_call 151; refine (HLV.out _ (H.out.bel (by repeat (with_reducible first | exact Below.refl _ _ | refine Below.drew ?_ | refine below_drewN ?_ _)))).mono ?_; rintro e w3 ⟨rfl, γ3, h3⟩; have H3 := Lib.hid h3; clear h3))
      go_ret
      exact ⟨rfl, γ3, H3.out⟩
    · rw [if_neg h6]
      have hb6 : (f.pc == 6) = false := by simp [h6]
      by_cases h2 : f.pc = 2
      · rw [if_pos h2]
        have hb2 : (f.pc == 2) = true := by simp [h2]
        have hn : f.n ≤ 9223372036854775807 := by have := (of_decide_eq_true hm : 0 ≤ t ∧ t < q.c.producers ∧ 1 ≤ f.n ∧ f.n ≤ q.c.cap).2.2.2; omega
        have HMP := Lib.hid (fun W (hW : Q532 w0 γ0 S R P la lc q s f W γ) => q5_mpublish32 hW hf hlen t hn)
        have HE1 := Lib.hid (show s.ev.length ≤ 1000000 by omega)
        have HNI := Lib.hid (addM_in32 f.from_ f.i)
        generalize publishP M32 s.b t f = r at *
        obtain ⟨d, b2, f2⟩ := r
        dsimp only at *
        clear h hm hel hf hlen hen hfi hcap hn h6 h2
        cases d
        · simp only [Bool.false_eq_true, if_false]
          go_enter Tryd.func80, Tryd.ntmps80
          go_wp2_with (go_at_call 146; refine (q5_may32 H.out _).mono ?_; rintro e w' ⟨rfl, m, rfl⟩; rw [HM.out])
          have hG := H.out.drewN m
          generalize w.drewN m = W1 at hG ⊢
          clear g0 g1 g4 g5 g8 g9 g10 hg r1 r3 r4 r6 r7 r8 r5 zr hr
          obtain ⟨g0, g1, g4, g5, g8, g9, g10, hg⟩ := hG.seq
          obtain ⟨r1, r3, r4, r6, r7, r8, r5, zr, hr⟩ := hG.reg
          have HG := Lib.hid hG
          clear hG
          go_quiet ((go_at_call 35; exact quiet_left (add32 _ _ _)))
          go_wp2_with (go_at_call 142; refine (HMP.out _ (HG.out.bel (by repeat (with_reducible first | exact Below.refl _ _ | refine Below.drew ?_ | refine below_drewN ?_ _)))).mono ?_; rintro e w3 ⟨rfl, γ3, h3⟩; obtain ⟨g0k, g1k, g4k, g5k, g8k, g9k, g10k, hgk⟩ := h3.seq; obtain ⟨r1k, r3k, r4k, r6k, r7k, r8k, r5k, zrk, hrk⟩ := h3.reg; (try dsimp only at r1k r3k r4k r6k r7k r8k r5k); have H3 := Lib.hid h3; clear h3)
          clear g0 g1 g4 g5 g8 g9 g10 hg r1 r3 r4 r6 r7 r8 r5 zr hr
          have HNT := Lib.hid (fun W (hW : Below w3.heap.size w3 W) => q5_note32 (H3.out.bel hW) HE1.out ⟨5, t, 0, 1, addM M32 f.from_ f.i, 0⟩)
          go_region_held3 (fun w' => w'.cell? ⟨P.g, 1, none⟩ = some (.pointer (some ⟨P.lg, 0, none⟩))) (go_keep) (first
            | (go_at_call 103; refine (up32 _ HNI.out _).mono ?_; rintro e w' ⟨rfl, rfl⟩)
            | (go_at_call 127; refine (HNT.out _ (by repeat (with_reducible first | exact Below.refl _ _ | refine Below.drew ?_ | refine below_drewN ?_ _))).mono ?_; rintro e w5 ⟨rfl, γ5, h5⟩; obtain ⟨g0n, g1n, g4n, g5n, g8n, g9n, g10n, hgn⟩ := h5.seq; obtain ⟨r1n, r3n, r4n, r6n, r7n, r8n, r5n, zrn, hrn⟩ := h5.reg; (try dsimp only at r1n r3n r4n r6n r7n r8n r5n); have H5 := Lib.hid h5; clear h5))
          go_wp2_with fail
          go_ret
          exact ⟨rfl, γ5, H5.out⟩
        · simp only [if_true]
          go_enter Tryd.func80, Tryd.ntmps80
          go_wp2_with (go_at_call 146; refine (q5_may32 H.out _).mono ?_; rintro e w' ⟨rfl, m, rfl⟩; rw [HM.out])
          have hG := H.out.drewN m
          generalize w.drewN m = W1 at hG ⊢
          clear g0 g1 g4 g5 g8 g9 g10 hg r1 r3 r4 r6 r7 r8 r5 zr hr
          obtain ⟨g0, g1, g4, g5, g8, g9, g10, hg⟩ := hG.seq
          obtain ⟨r1, r3, r4, r6, r7, r8, r5, zr, hr⟩ := hG.reg
          have HG := Lib.hid hG
          clear hG
          go_quiet ((go_at_call 35; exact quiet_left (add32 _ _ _)))
          go_wp2_with (go_at_call 142; refine (HMP.out _ (HG.out.bel (by repeat (with_reducible first | exact Below.refl _ _ | refine Below.drew ?_ | refine below_drewN ?_ _)))).mono ?_; rintro e w3 ⟨rfl, γ3, h3⟩; obtain ⟨g0k, g1k, g4k, g5k, g8k, g9k, g10k, hgk⟩ := h3.seq; obtain ⟨r1k, r3k, r4k, r6k, r7k, r8k, r5k, zrk, hrk⟩ := h3.reg; (try dsimp only at r1k r3k r4k r6k r7k r8k r5k); have H3 := Lib.hid h3; clear h3)
          clear g0 g1 g4 g5 g8 g9 g10 hg r1 r3 r4 r6 r7 r8 r5 zr hr
          have hA := H3.out.setPc 6
          generalize w3.setCell ⟨P.fb, P.o + 3, none⟩ (.int .i64 6) = W2 at hA ⊢
          clear g0k g1k g4k g5k g8k g9k g10k hgk r1k r3k r4k r6k r7k r8k r5k zrk hrk
          obtain ⟨g0k, g1k, g4k, g5k, g8k, g9k, g10k, hgk⟩ := hA.seq
          obtain ⟨r1k, r3k, r4k, r6k, r7k, r8k, r5k, zrk, hrk⟩ := hA.reg
          have HA := Lib.hid hA
          clear hA
          have HNT := Lib.hid (fun W (hW : Below W2.heap.size W2 W) => q5_note32 (HA.out.bel hW) HE1.out ⟨5, t, 0, 1, addM M32 f.from_ f.i, 0⟩)
          go_region_held3 (fun w' => w'.cell? ⟨P.g, 1, none⟩ = some (.pointer (some ⟨P.lg, 0, none⟩))) (go_keep) (first
            | (go_at_call 103; refine (up32 _ HNI.out _).mono ?_; rintro e w' ⟨rfl, rfl⟩)
            | (go_at_call 127; refine (HNT.out _ (by repeat (with_reducible first | exact Below.refl _ _ | refine Below.drew ?_ | refine below_drewN ?_ _))).mono ?_; rintro e w5 ⟨rfl, γ5, h5⟩; obtain ⟨g0n, g1n, g4n, g5n, g8n, g9n, g10n, hgn⟩ := h5.seq; obtain ⟨r1n, r3n, r4n, r6n, r7n, r8n, r5n, zrn, hrn⟩ := h5.reg; (try dsimp only at r1n r3n r4n r6n r7n r8n r5n); have H5 := Lib.hid h5; clear h5))
          go_wp2_with fail
          go_ret
          exact ⟨rfl, γ5, H5.out⟩
      · rw [if_neg h2]
        have hb2 : (f.pc == 2) = false := by simp [h2]
        have HEN := Lib.hid (fun W (hW : Q532 w0 γ0 S R P la lc q s f W γ) => q5_enter32 hW hf hlen t)
        clear h hm hel hf hlen hen hfi hcap h6 h2
        go_enter Tryd.func80, Tryd.ntmps80
        go_wp2_with (first
          | (go_at_call 146; refine (q5_may32 H.out _).mono ?_; rintro e w' ⟨rfl, m, rfl⟩; rw [HM.out])
          | (go_at_call 147; refine (HEN.out _ (H.out.bel (by repeat (with_reducible first | exact Below.refl _ _ | refine Below.drew ?_ | refine below_drewN ?_ _)))).mono ?_; rintro e w3 ⟨rfl, γ3, h3⟩; have H3 := Lib.hid h3; clear h3))
        go_ret
        exact ⟨rfl, γ3, H3.out⟩
end
section
set_option maxRecDepth 100000
variable {w0 w w' : World} {γ0 γ : Nat → Nat} {S : Nat → Prop} {R : List It} {P : QP} {la : Option Addr} {lc : Nat} {q : SqC} {s : SqN} {f f' : FrS} {k : Nat}
theorem q5_tip32 (h : Q532 w0 γ0 S R P la lc q s f w γ) (hf : s.b.Fit M32) (hlen : s.b.log.length ≤ 1000000) (hv : InM M32 f.val) (t : Int) :
    Calls Tryd.prog 81 #[.pointer (some ⟨P.g, 0, none⟩), .int .i64 t, .pointer (some ⟨P.fb, P.o, none⟩)] w (Q5End32 w0 γ0 S R P la lc q (tip5 M32 t s f)) := by
  unfold tip5
  obtain ⟨g0, g1, g4, g5, g8, g9, g10, hg⟩ := h.seq
  obtain ⟨r1, r3, r4, r6, r7, r8, r5, zr, hr⟩ := h.reg
  have H := Lib.hid h
  by_cases h6 : f.pc = 6
  · rw [if_pos h6]
    have HLV := Lib.hid (fun W (hW : Q532 w0 γ0 S R P la lc q s f W γ) => q5_leaveF32 hW hf hlen t)
    have hb6 : (f.pc == 6) = true := by simp [h6]
    clear h hf hlen hv h6
    go_enter Tryd.func81, Tryd.ntmps81
    go_wp2_with (go_at_call 151; refine (HLV.out _ (H.out.bel (by repeat (with_reducible first | exact Below.refl _ _ | refine Below.drew ?_ | refine below_drewN ?_ _)))).mono ?_; rintro e w3 ⟨rfl, γ3, h3⟩; have H3 := Lib.hid h3; clear h3)
    go_ret
    exact ⟨rfl, γ3, H3.out⟩
  · rw [if_neg h6]
    have hb6 : (f.pc == 6) = false := by simp [h6]
    by_cases h2 : f.pc = 2
    · rw [if_pos h2]
      have hb2 : (f.pc == 2) = true := by simp [h2]
      have HMP := Lib.hid (fun W (hW : Q532 w0 γ0 S R P la lc q s f W γ) => q5_mseek32 hW hf hlen t hv)
      generalize seekP M32 s.b t f = r at *
      obtain ⟨d, b2, f2⟩ := r
      dsimp only at *
      clear h hf hlen hv h6 h2
      cases d
      · simp only [Bool.false_eq_true, if_false]
        go_enter Tryd.func81, Tryd.ntmps81
        go_wp2_with (go_at_call 143; refine (HMP.out _ (H.out.bel (by repeat (with_reducible first | exact Below.refl _ _ | refine Below.drew ?_ | refine below_drewN ?_ _)))).mono ?_; rintro e w3 ⟨rfl, γ3, h3⟩; obtain ⟨g0k, g1k, g4k, g5k, g8k, g9k, g10k, hgk⟩ := h3.seq; obtain ⟨r1k, r3k, r4k, r6k, r7k, r8k, r5k, zrk, hrk⟩ := h3.reg; (try dsimp only at r1k r3k r4k r6k r7k r8k r5k); have H3 := Lib.hid h3; clear h3)
        go_ret
        exact ⟨rfl, γ3, H3.out⟩
      · simp only [if_true]
        go_enter Tryd.func81, Tryd.ntmps81
        go_wp2_with (go_at_call 143; refine (HMP.out _ (H.out.bel (by repeat (with_reducible first | exact Below.refl _ _ | refine Below.drew ?_ | refine below_drewN ?_ _)))).mono ?_; rintro e w3 ⟨rfl, γ3, h3⟩; obtain ⟨g0k, g1k, g4k, g5k, g8k, g9k, g10k, hgk⟩ := h3.seq; obtain ⟨r1k, r3k, r4k, r6k, r7k, r8k, r5k, zrk, hrk⟩ := h3.reg; (try dsimp only at r1k r3k r4k r6k r7k r8k r5k); have H3 := Lib.hid h3; clear h3)
        go_ret
        exact ⟨rfl, γ3, H3.out.setPc 6⟩
    · rw [if_neg h2]
      have hb2 : (f.pc == 2) = false := by simp [h2]
      have HEN := Lib.hid (fun W (hW : Q532 w0 γ0 S R P la lc q s f W γ) => q5_enter32 hW hf hlen t)
      clear h hf hlen hv h6 h2
      go_enter Tryd.func81, Tryd.ntmps81
      go_wp2_with (go_at_call 147; refine (HEN.out _ (H.out.bel (by repeat (with_reducible first | exact Below.refl _ _ | refine Below.drew ?_ | refine below_drewN ?_ _)))).mono ?_; rintro e w3 ⟨rfl, γ3, h3⟩; have H3 := Lib.hid h3; clear h3)
      go_ret
      exact ⟨rfl, γ3, H3.out⟩
end
section
variable {w0 w w' : World} {γ0 γ : Nat → Nat} {S : Nat → Prop} {R : List It} {P : QP} {la : Option Addr} {lc : Nat} {q : SqC} {s : SqN} {f f' : FrS} {n : Nat}
theorem q5s_claim32 (h : Q532 w0 γ0 S R P la lc q s f w γ) (hs : StN M32 q n s) (hn : n ≤ 400000) (hr : FOk M32 f) (t : Int) : Calls Tryd.prog 79 #[.pointer (some ⟨P.g, 0, none⟩), .int .i64 t, .pointer (some ⟨P.fb, P.o, none⟩)] w (Q5End32 w0 γ0 S R P la lc q (claim5 M32 q t s f)) :=
  q5_claim32 h hs.fit (by have := hs.log; omega) (by have := hs.ev; omega) (by have := hs.ends; omega) (by rw [← hs.conf]; exact hs.fit.cap.bd.2) hr.from_ hr.j hs.len hs.conf t
theorem q5s_publish32 (h : Q532 w0 γ0 S R P la lc q s f w γ) (hs : StN M32 q n s) (hn : n ≤ 400000) (hr : FOk M32 f) (t : Int) : Calls Tryd.prog 80 #[.pointer (some ⟨P.g, 0, none⟩), .int .i64 t, .pointer (some ⟨P.fb, P.o, none⟩)] w (Q5End32 w0 γ0 S R P la lc q (publish5 M32 q t s f)) :=
  q5_publish32 h hs.fit (by have := hs.log; omega) (by have := hs.ev; omega) (by have := hs.ends; omega) (by rw [← hs.conf]; exact hs.fit.cap.bd.2) hr.from_ t
theorem q5s_tip32 (h : Q532 w0 γ0 S R P la lc q s f w γ) (hs : StN M32 q n s) (hn : n ≤ 400000) (hr : FOk M32 f) (t : Int) : Calls Tryd.prog 81 #[.pointer (some ⟨P.g, 0, none⟩), .int .i64 t, .pointer (some ⟨P.fb, P.o, none⟩)] w (Q5End32 w0 γ0 S R P la lc q (tip5 M32 t s f)) :=
  q5_tip32 h hs.fit (by have := hs.log; omega) hr.val t
end
theorem q5_claimNil32 (gv fv : Option Addr) (hn : gv = none ∨ fv = none) (t : Int) (w : World) :
    Calls Tryd.prog 79 #[.pointer gv, .int .i64 t, .pointer fv] w fun e w' => e = .returned (.bool true) ∧ ∃ m, w' = w.drewN m := by
  go_enter Tryd.func79, Tryd.ntmps79
  go_wp2_with fail
  go_step3
  go_wp2_with (go_at_call 146; refine (mayN_lock32 w gv fv hn t).mono ?_; rintro e w' ⟨rfl, m, rfl⟩)
  try rw [Exit.noGoto_ret]
  go_ret
  exact ⟨rfl, m, rfl⟩
theorem q5_publishNil32 (gv fv : Option Addr) (hn : gv = none ∨ fv = none) (t : Int) (w : World) :
    Calls Tryd.prog 80 #[.pointer gv, .int .i64 t, .pointer fv] w fun e w' => e = .returned (.bool true) ∧ ∃ m, w' = w.drewN m := by
  go_enter Tryd.func80, Tryd.ntmps80
  go_wp2_with fail
  skip
  go_wp2_with (go_at_call 146; refine (mayN_lock32 w gv fv hn t).mono ?_; rintro e w' ⟨rfl, m, rfl⟩)
  try rw [Exit.noGoto_ret]
  go_ret
  exact ⟨rfl, m, rfl⟩
theorem q5_tipNil32 (gv fv : Option Addr) (hn : gv = none ∨ fv = none) (t : Int) (w : World) :
    Calls Tryd.prog 81 #[.pointer gv, .int .i64 t, .pointer fv] w fun e w' => e = .returned (.bool true) ∧ ∃ m, w' = w.drewN m := by
  rcases hn with rfl | rfl
  · go_enter Tryd.func81, Tryd.ntmps81
    go_wp2_with fail
    go_ret
    exact ⟨rfl, 0, rfl⟩
  · cases gv with
    | none =>
      go_enter Tryd.func81, Tryd.ntmps81
      go_wp2_with fail
      go_ret
      exact ⟨rfl, 0, rfl⟩
    | some a =>
      go_enter Tryd.func81, Tryd.ntmps81
      go_wp2_with fail
      go_ret
      exact ⟨rfl, 0, rfl⟩
end Go.Proofs.YtnkmlopjinihiaaDoor
