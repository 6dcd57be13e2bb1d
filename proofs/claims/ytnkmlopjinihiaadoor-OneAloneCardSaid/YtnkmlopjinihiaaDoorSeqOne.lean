/- Contracts of seqone's methods, for both widths: the things (board, events, sequencer, registers) behind a call. -/
import Derived.Test.YtnkmlopjinihiaaDoorSeqMay
import Derived.Test.YtnkmlopjinihiaaDoorScope
import Derived.Test.YtnkmlopjinihiaaDoorEvent
import Derived.Test.YtnkmlopjinihiaaDoorGate
namespace Go.Proofs.YtnkmlopjinihiaaDoor
open Go.RowKit
set_option linter.unusedVariables false
set_option linter.unusedSimpArgs false
set_option maxHeartbeats 4000000

/-- what lies around a call -/
def Q132 (w0 : World) (γ0 : Nat → Nat) (S : Nat → Prop) (R : List It) (P : QP) (q : SqC) (s : Sq1) (f : FrS) (w : World) (γ : Nat → Nat) : Prop :=
  Its w0 γ0 S (itB 132 48 208 .u32 P.ib P.p s.b :: itL 155 162 P.il P.lg s.ev :: itS1 195 .u32 P.is_ P.g P.p P.lg q s.next s.least :: P.fr .u32 f :: R) w γ
def Q1End32 (w0 : World) (γ0 : Nat → Nat) (S : Nat → Prop) (R : List It) (P : QP) (q : SqC) (r : Bool × Sq1 × FrS) (e : Ending) (w' : World) : Prop :=
  e = .returned (.bool r.1) ∧ ∃ γ', Q132 w0 γ0 S R P q r.2.1 r.2.2 w' γ'
section
variable {w0 w w' : World} {γ0 γ : Nat → Nat} {S : Nat → Prop} {R : List It} {P : QP} {q : SqC} {s : Sq1} {f f' : FrS}
theorem Q132.seq (h : Q132 w0 γ0 S R P q s f w γ) : w.cell? ⟨P.g, 0, none⟩ = some (.pointer (some ⟨P.p, 0, none⟩)) ∧ w.cell? ⟨P.g, 1, none⟩ = some (.pointer (some ⟨P.lg, 0, none⟩)) ∧ w.cell? ⟨P.g, 4, none⟩ = some (.int .i64 q.c.cap) ∧ w.cell? ⟨P.g, 5, none⟩ = some (.int .i64 q.c.producers)
    ∧ w.cell? ⟨P.g, 8, none⟩ = some (.slice q.ea q.ends.length q.ec) ∧ w.cell? ⟨P.g, 9, none⟩ = some (.int .i64 q.cell) ∧ w.cell? ⟨P.g, 10, none⟩ = some (.int .u32 s.next) ∧ w.cell? ⟨P.g, 11, none⟩ = some (.int .u32 s.least) ∧ w.frozen? ⟨P.g, 10, none⟩ = false ∧ w.frozen? ⟨P.g, 11, none⟩ = false ∧ P.g < w.heap.size := by
  have hb : Seq1At 195 .u32 w γ P.is_ P.g P.p P.lg q s.next s.least := Its.g2 h
  exact ⟨hb.1.cell 0, hb.1.cell 1, hb.1.cell 4, hb.1.cell 5, hb.1.cell 8, hb.1.cell 9, hb.1.cell 10, hb.1.cell 11, hb.1.frozen 10, hb.1.frozen 11, hb.1.lt⟩
theorem Q132.ends (h : Q132 w0 γ0 S R P q s f w γ) : IntsAt w (fun b => b < w.heap.size) q.ea q.ends := by
  have hb : Seq1At 195 .u32 w γ P.is_ P.g P.p P.lg q s.next s.least := Its.g2 h
  exact ints_of_own hb.2.2.1 (fun g _ h => h)
theorem Q132.reg (h : Q132 w0 γ0 S R P q s f w γ) : w.cell? ⟨P.fb, P.o + 1, none⟩ = some (.int .i64 f.n) ∧ w.cell? ⟨P.fb, P.o + 3, none⟩ = some (.int .i64 f.pc) ∧ w.cell? ⟨P.fb, P.o + 4, none⟩ = some (.int .i64 f.i) ∧ w.cell? ⟨P.fb, P.o + 6, none⟩ = some (.int .u32 f.from_) ∧ w.cell? ⟨P.fb, P.o + 7, none⟩ = some (.int .u32 f.min) ∧ w.cell? ⟨P.fb, P.o + 8, none⟩ = some (.int .u32 f.val)
    ∧ (∀ k, w.frozen? ⟨P.fb, k, none⟩ = false) ∧ P.fb < w.heap.size := by
  have hb : Blk w P.fb P.T (frsCs .u32 P.pre (P.fs.set P.t f) P.post) ∧ γ P.fb = P.ifr := Its.g3 h
  exact ⟨QP.cell hb.1 1 (by omega), QP.cell hb.1 3 (by omega), QP.cell hb.1 4 (by omega), QP.cell hb.1 6 (by omega), QP.cell hb.1 7 (by omega), QP.cell hb.1 8 (by omega), fun k => hb.1.frozen k, hb.1.lt⟩
theorem Q132.ne (h : Q132 w0 γ0 S R P q s f w γ) : P.g ≠ P.fb ∧ P.fb ≠ P.g := by
  have hb : Blk w P.fb P.T (frsCs .u32 P.pre (P.fs.set P.t f) P.post) ∧ γ P.fb = P.ifr := Its.g3 h
  have hs : Seq1At 195 .u32 w γ P.is_ P.g P.p P.lg q s.next s.least := Its.g2 h
  have hn : P.is_ ≠ P.ifr := Its.nid h (k := 2) (m := 3) rfl rfl (by decide)
  exact ⟨fun e => hn (by rw [← hs.2.1, ← hb.2, e]), fun e => hn (by rw [← hs.2.1, ← hb.2, e])⟩
theorem Q132.bel (h : Q132 w0 γ0 S R P q s f w γ) (hb : Below w.heap.size w w') : Q132 w0 γ0 S R P q s f w' γ := Its.below h hb
theorem Q132.drewN (h : Q132 w0 γ0 S R P q s f w γ) (n : Nat) : Q132 w0 γ0 S R P q s f (w.drewN n) γ := Its.drewN h n
theorem Q132.drew (h : Q132 w0 γ0 S R P q s f w γ) : Q132 w0 γ0 S R P q s f w.drew γ := Its.below h (Below.drew (Below.refl _ _))
theorem q1_may32 (h : Q132 w0 γ0 S R P q s f w γ) (t : Int) : Calls Tryd.prog 177 #[.pointer (some ⟨P.g, 0, none⟩), .int .i64 t, .pointer (some ⟨P.fb, P.o, none⟩)] w fun e w' => e = .returned (.bool (mayP q t f)) ∧ ∃ m, w' = w.drewN m :=
  may_one32 w P.g P.fb P.o q f t h.seq.2.2.2.1 h.seq.2.2.1 h.reg.1
theorem q1_scan32 (h : Q132 w0 γ0 S R P q s f w γ) (hf : s.b.Fit M32) (hlen : s.b.log.length ≤ 1000000) (hen : q.ends.length ≤ 1000000) (t : Int) : Calls Tryd.prog 37 #[.pointer (some ⟨P.p, 0, none⟩), .int .i64 t, .slice q.ea q.ends.length q.ec, .pointer (some ⟨P.fb, P.o, none⟩)] w
    fun e w' => e = .returned (.bool (scanP M32 s.b t q.ends f).1) ∧ ∃ γ', Q132 w0 γ0 S R P q { s with b := (scanP M32 s.b t q.ends f).2.1 } (scanP M32 s.b t q.ends f).2.2 w' γ' := by
  have hne : P.ifr ≠ P.ib := Its.ne03 h
  exact (gscan32 (P.bf hne) w γ w γ s.b f (Its.bfAt h hne) hf hlen t q.ea q.ends q.ec _ h.ends hen).mono fun e w' hq => Its.bfEnd h hne hq
theorem q1_note32 (h : Q132 w0 γ0 S R P q s f w γ) (hlen : s.ev.length ≤ 1000000) (a : Ev) : Calls Tryd.prog 127 #[.pointer (some ⟨P.lg, 0, none⟩), .agg #[.int .i64 a.kind, .int .i64 a.thread, .int .i64 a.op, .int .i64 a.n, .int .u64 a.pos, .int .i64 a.code, .slice none 0 0]] w
    fun e w' => e = .returned (.tuple #[]) ∧ ∃ γ', Q132 w0 γ0 S R P q { s with ev := s.ev ++ [a] } f w' γ' := by
  have hl : LogAt 155 162 w γ P.il P.lg s.ev := Its.g1 h
  exact (evNote w γ P.il P.lg s.ev hl hlen a).mono fun e w' hq => Its.one1 h rfl hq
theorem q1_load32 (h : Q132 w0 γ0 S R P q s f w γ) (hf : s.b.Fit M32) (hlen : s.b.log.length ≤ 1000000) (t k : Int) : Calls Tryd.prog 104 #[.pointer (some ⟨P.p, 0, none⟩), .int .i64 t, .int .i64 k] w
    fun e w' => e = .returned (.int .u32 (s.b.load t k).1) ∧ ∃ γ', Q132 w0 γ0 S R P q { s with b := (s.b.load t k).2 } f w' γ' :=
  (bLoad32 w γ P.ib P.p s.b (Its.g0 h) hf.ok hlen t k).mono fun e w' hq => Its.mut0 h hq
theorem q1_store32 (h : Q132 w0 γ0 S R P q s f w γ) (hf : s.b.Fit M32) (hlen : s.b.log.length ≤ 1000000) (t k v : Int) (hv : InM M32 v) : Calls Tryd.prog 31 #[.pointer (some ⟨P.p, 0, none⟩), .int .i64 t, .int .i64 k, .int .u32 v] w
    fun e w' => e = .returned (.tuple #[]) ∧ ∃ γ', Q132 w0 γ0 S R P q { s with b := s.b.store t k v } f w' γ' :=
  (bStore32 w γ P.ib P.p s.b (Its.g0 h) hf.ok hlen t k v hv).mono fun e w' hq => Its.mut0 h hq
theorem Q132.setPc (h : Q132 w0 γ0 S R P q s f w γ) (x : Int) : Q132 w0 γ0 S R P q s { f with pc := x } (w.setCell ⟨P.fb, P.o + 3, none⟩ (.int .i64 x)) γ := Its.setPc h x
theorem Q132.setI (h : Q132 w0 γ0 S R P q s f w γ) (x : Int) : Q132 w0 γ0 S R P q s { f with i := x } (w.setCell ⟨P.fb, P.o + 4, none⟩ (.int .i64 x)) γ := Its.setI h x
theorem Q132.setFrom (h : Q132 w0 γ0 S R P q s f w γ) (x : Int) : Q132 w0 γ0 S R P q s { f with from_ := x } (w.setCell ⟨P.fb, P.o + 6, none⟩ (.int .u32 x)) γ := Its.setFrom h x
theorem Q132.setVal (h : Q132 w0 γ0 S R P q s f w γ) (x : Int) : Q132 w0 γ0 S R P q s { f with val := x } (w.setCell ⟨P.fb, P.o + 8, none⟩ (.int .u32 x)) γ := Its.setVal h x
theorem Q132.setNext (h : Q132 w0 γ0 S R P q s f w γ) (x : Int) : Q132 w0 γ0 S R P q { s with next := x } f (w.setCell ⟨P.g, 10, none⟩ (.int .u32 x)) γ := Its.setNext (by decide) h x
theorem Q132.setLeast (h : Q132 w0 γ0 S R P q s f w γ) (x : Int) : Q132 w0 γ0 S R P q { s with least := x } f (w.setCell ⟨P.g, 11, none⟩ (.int .u32 x)) γ := Its.setLeast (by decide) h x
end
section
variable {w0 w : World} {γ0 γ : Nat → Nat} {S : Nat → Prop} {R : List It} {P : QP} {q : SqC} {s : Sq1} {f : FrS}
theorem q1_fits32 (h : Q132 w0 γ0 S R P q s f w γ) : Calls Tryd.prog 178 #[.pointer (some ⟨P.g, 0, none⟩), .pointer (some ⟨P.fb, P.o, none⟩)] w fun e w' => e = .returned (.bool (fitsP M32 q.c.cap f.from_ f.n s.least)) ∧ ∃ m, w' = w.drewN m := by
  obtain ⟨g0, g1, g4, g5, g8, g9, g10, g11, z10, z11, hg⟩ := h.seq
  obtain ⟨r1, r3, r4, r6, r7, r8, zr, hr⟩ := h.reg
  clear h
  go_enter Tryd.func178, Tryd.ntmps178
  go_wp2_with fail
  go_quiet ((go_at_call 94; exact quiet_left (gfits32 _ _ _ _ _)))
  go_wp2_with fail
  go_ret
  exact ⟨rfl, _, rfl⟩
end
section
set_option maxRecDepth 100000
variable {w0 w : World} {γ0 γ : Nat → Nat} {S : Nat → Prop} {R : List It} {P : QP} {q : SqC} {s : Sq1} {f : FrS}
theorem q1_claimN32 (h : Q132 w0 γ0 S R P q s f w γ) (t : Int) (hm : mayP q t f = false) :
    Calls Tryd.prog 121 #[.pointer (some ⟨P.g, 0, none⟩), .int .i64 t, .pointer (some ⟨P.fb, P.o, none⟩)] w (Q1End32 w0 γ0 S R P q (true, s, f)) := by
  have H := Lib.hid h
  have HM := Lib.hid hm
  clear h hm
  go_enter Tryd.func121, Tryd.ntmps121
  go_wp2_with fail
  go_step3
  go_wp2_with (go_at_call 177; refine (q1_may32 H.out t).mono ?_; rintro e w' ⟨rfl, m, rfl⟩; rw [HM.out])
  try rw [Exit.noGoto_ret]
  go_ret
  exact ⟨rfl, γ, H.out.drewN m⟩
theorem q1_claimD32 (h : Q132 w0 γ0 S R P q s f w γ) (hel : s.ev.length ≤ 999998) (hni : InM M32 s.next) (t : Int) (hm : mayP q t f = true) (hpc : f.pc ≠ 1) (hft : fitsP M32 q.c.cap s.next f.n s.least = true) :
    Calls Tryd.prog 121 #[.pointer (some ⟨P.g, 0, none⟩), .int .i64 t, .pointer (some ⟨P.fb, P.o, none⟩)] w (Q1End32 w0 γ0 S R P q (grant1 M32 t s { f with from_ := s.next })) := by
  have H := Lib.hid h
  obtain ⟨g0, g1, g4, g5, g8, g9, g10, g11, z10, z11, hg⟩ := h.seq
  obtain ⟨r1, r3, r4, r6, r7, r8, zr, hr⟩ := h.reg
  obtain ⟨hne1, hne2⟩ := h.ne
  have HM := Lib.hid hm
  have HF := Lib.hid (show fitsP M32 q.c.cap ({ f with from_ := s.next } : FrS).from_ ({ f with from_ := s.next } : FrS).n s.least = true by dsimp only; exact hft)
  have hpb : (f.pc == 1) = false := by simp [hpc]
  have HE1 := Lib.hid (show s.ev.length ≤ 1000000 by omega)
  have HE2 := Lib.hid (fun a : Ev => show (s.ev ++ [a]).length ≤ 1000000 by rw [List.length_append, List.length_singleton]; omega)
  have HNI := Lib.hid hni
  clear h hm hpc hft hel hni
  go_enter Tryd.func121, Tryd.ntmps121
  go_wp2_with fail
  refine wp_scope_once 1 rfl ?_
  go_wp2_with (first
    | (go_at_call 177; refine (q1_may32 H.out t).mono ?_; rintro e w' ⟨rfl, m, rfl⟩; rw [HM.out])
    | (go_at_call 178; refine (q1_fits32 ((H.out.drewN _).setFrom s.next)).mono ?_; rintro e w' ⟨rfl, m2, rfl⟩; rw [HF.out]))
  go_step3
  try simp only [Exit.then]
  refine ⟨rfl, ?_⟩
  go_wp2_with fail
  have hG := ((H.out.drewN m).setFrom s.next).drewN m2
  generalize (((w.drewN m).setCell ⟨P.fb, P.o + 6, none⟩ (.int .u32 s.next)).drewN m2) = W1 at hG ⊢
  clear g0 g1 g4 g5 g8 g9 g10 g11 z10 z11 hg r1 r3 r4 r6 r7 r8 zr hr
  obtain ⟨g0, g1, g4, g5, g8, g9, g10, g11, z10, z11, hg⟩ := hG.seq
  obtain ⟨r1, r3, r4, r6, r7, r8, zr, hr⟩ := hG.reg
  try dsimp only at r1 r3 r4 r6 r7 r8
  have HG := Lib.hid hG
  clear hG
  go_region_with (first | (go_at_call 35; refine (add32 _ _ _).mono ?_; rintro e w' ⟨rfl, rfl⟩))
  all_goals
    go_wp2_with fail
    have hA := ((HG.out.setNext (addM M32 s.next f.n)).setPc 0).drew
    generalize ((W1.setCell ⟨P.g, 10, none⟩ (.int .u32 (addM M32 s.next f.n))).setCell ⟨P.fb, P.o + 3, none⟩ (.int .i64 0)).drew = W2 at hA ⊢
    clear g0 g1 g4 g5 g8 g9 g10 g11 z10 z11 hg r1 r3 r4 r6 r7 r8 zr hr
    obtain ⟨g0, g1, g4, g5, g8, g9, g10, g11, z10, z11, hg⟩ := hA.seq
    obtain ⟨r1, r3, r4, r6, r7, r8, zr, hr⟩ := hA.reg
    try dsimp only at r1 r3 r4 r6 r7 r8
    have HNT := Lib.hid (fun W (hW : Below W2.heap.size W2 W) => q1_note32 (hA.bel hW) HE1.out ⟨3, t, 0, f.n, s.next, 0⟩)
    clear hA
    go_region_held3 (fun w' => w'.cell? ⟨P.g, 1, none⟩ = some (.pointer (some ⟨P.lg, 0, none⟩)) ∧ w'.cell? ⟨P.fb, P.o + 1, none⟩ = some (.int .i64 f.n) ∧ w'.cell? ⟨P.fb, P.o + 6, none⟩ = some (.int .u32 s.next)) (go_keep) (first
      | (go_at_call 103; refine (up32 _ HNI.out _).mono ?_; rintro e w' ⟨rfl, rfl⟩)
      | (go_at_call 127; refine (HNT.out _ (by repeat (with_reducible first | exact Below.refl _ _ | refine Below.drew ?_ | refine below_drewN ?_ _))).mono ?_; rintro e w5 ⟨rfl, γ5, h5⟩; obtain ⟨_, k1, _, _, _, _, _, _, _, _, _⟩ := h5.seq; obtain ⟨j1, _, _, j6, _, _, _, _⟩ := h5.reg; try dsimp only at j1 j6; have H5 := Lib.hid h5; clear h5))
    go_wp2_with (go_at_call 127; refine (q1_note32 H5.out (HE2.out _) ⟨4, t, 0, 0, 0, 0⟩).mono ?_; rintro e w6 ⟨rfl, γ6, h6⟩; have H6 := Lib.hid h6; clear h6)
    try rw [Exit.noGoto_ret]
    go_ret
    exact ⟨rfl, γ6, H6.out⟩
theorem q1_claimS32 (h : Q132 w0 γ0 S R P q s f w γ) (hf : s.b.Fit M32) (hlen : s.b.log.length ≤ 1000000) (hel : s.ev.length ≤ 999998) (hen : q.ends.length ≤ 1000000) (hfi : InM M32 f.from_) (t : Int) (hm : mayP q t f = true) (hpc : f.pc = 1) :
    Calls Tryd.prog 121 #[.pointer (some ⟨P.g, 0, none⟩), .int .i64 t, .pointer (some ⟨P.fb, P.o, none⟩)] w (Q1End32 w0 γ0 S R P q (scan1 M32 q t s f)) := by
  have H := Lib.hid h
  obtain ⟨g0, g1, g4, g5, g8, g9, g10, g11, z10, z11, hg⟩ := h.seq
  obtain ⟨r1, r3, r4, r6, r7, r8, zr, hr⟩ := h.reg
  obtain ⟨hne1, hne2⟩ := h.ne
  have HM := Lib.hid hm
  unfold scan1
  have HUF := Lib.hid (scanP_from M32 s.b t q.ends f ▸ hfi)
  have HS0 := Lib.hid (fun W (hW : Q132 w0 γ0 S R P q s f W γ) => q1_scan32 hW hf hlen hen t)
  generalize scanP M32 s.b t q.ends f = r at *
  obtain ⟨d, b2, f2⟩ := r
  dsimp only at *
  have hpb : (f.pc == 1) = true := by simp [hpc]
  have HE1 := Lib.hid (show s.ev.length ≤ 1000000 by omega)
  have HE2 := Lib.hid (fun a : Ev => show (s.ev ++ [a]).length ≤ 1000000 by rw [List.length_append, List.length_singleton]; omega)
  clear h hm hpc hel hen hf hlen hfi
  cases d
  · rw [if_pos rfl]
    go_enter Tryd.func121, Tryd.ntmps121
    go_wp2_with fail
    refine wp_scope_once 0 rfl ?_
    go_wp2_with (go_at_call 177; refine (q1_may32 H.out t).mono ?_; rintro e w' ⟨rfl, m, rfl⟩; rw [HM.out])
    go_step3
    try simp only [Exit.then]
    refine ⟨rfl, ?_⟩
    go_wp2_with fail
    try go_step3
    go_wp2_with fail
    have hG := H.out.drewN m
    generalize w.drewN m = W1 at hG ⊢
    clear g0 g1 g4 g5 g8 g9 g10 g11 z10 z11 hg r1 r3 r4 r6 r7 r8 zr hr
    obtain ⟨g0, g1, g4, g5, g8, g9, g10, g11, z10, z11, hg⟩ := hG.seq
    obtain ⟨r1, r3, r4, r6, r7, r8, zr, hr⟩ := hG.reg
    try dsimp only at r1 r3 r4 r6 r7 r8
    have HSC := Lib.hid (fun W (hW : Below W1.heap.size W1 W) => HS0.out W (hG.bel hW))
    clear hG
    go_region_held3 (fun w' => w'.cell? ⟨P.g, 0, none⟩ = some (.pointer (some ⟨P.p, 0, none⟩)) ∧ w'.cell? ⟨P.g, 8, none⟩ = some (.slice q.ea q.ends.length q.ec)) (go_keep) (first
      | (go_at_call 37; refine (HSC.out _ (by repeat (with_reducible first | exact Below.refl _ _ | refine Below.drew ?_ | refine below_drewN ?_ _))).mono ?_; rintro e w3 ⟨rfl, γ3, h3⟩; obtain ⟨k0, k1, k4, k5, k8, k9, k10, k11, y10, y11, kg⟩ := h3.seq; obtain ⟨l1, l3, l4, l6, l7, l8, yr, lr⟩ := h3.reg; have H3 := Lib.hid h3; clear h3))
    go_wp2_with fail
    try rw [Exit.noGoto_ret]
    go_ret
    exact ⟨rfl, γ3, H3.out⟩
  · rw [if_neg (by decide)]
    cases hv : fitsP M32 q.c.cap f2.from_ f2.n f2.min
    · rw [if_pos rfl]
      have HF := Lib.hid hv
      clear hv
      go_enter Tryd.func121, Tryd.ntmps121
      go_wp2_with fail
      refine wp_scope_once 0 rfl ?_
      go_wp2_with (go_at_call 177; refine (q1_may32 H.out t).mono ?_; rintro e w' ⟨rfl, m, rfl⟩; rw [HM.out])
      go_step3
      try simp only [Exit.then]
      refine ⟨rfl, ?_⟩
      go_wp2_with fail
      try go_step3
      go_wp2_with fail
      have hG := H.out.drewN m
      generalize w.drewN m = W1 at hG ⊢
      clear g0 g1 g4 g5 g8 g9 g10 g11 z10 z11 hg r1 r3 r4 r6 r7 r8 zr hr
      obtain ⟨g0, g1, g4, g5, g8, g9, g10, g11, z10, z11, hg⟩ := hG.seq
      obtain ⟨r1, r3, r4, r6, r7, r8, zr, hr⟩ := hG.reg
      try dsimp only at r1 r3 r4 r6 r7 r8
      have HSC := Lib.hid (fun W (hW : Below W1.heap.size W1 W) => HS0.out W (hG.bel hW))
      clear hG
      go_region_held3 (fun w' => w'.cell? ⟨P.g, 0, none⟩ = some (.pointer (some ⟨P.p, 0, none⟩)) ∧ w'.cell? ⟨P.g, 8, none⟩ = some (.slice q.ea q.ends.length q.ec)) (go_keep) (first
        | (go_at_call 37; refine (HSC.out _ (by repeat (with_reducible first | exact Below.refl _ _ | refine Below.drew ?_ | refine below_drewN ?_ _))).mono ?_; rintro e w3 ⟨rfl, γ3, h3⟩; obtain ⟨k0, k1, k4, k5, k8, k9, k10, k11, y10, y11, kg⟩ := h3.seq; obtain ⟨l1, l3, l4, l6, l7, l8, yr, lr⟩ := h3.reg; have H3 := Lib.hid h3; clear h3))
      go_wp2_with (go_at_call 178; refine (q1_fits32 (H3.out.setLeast f2.min)).mono ?_; rintro e w' ⟨rfl, m3, rfl⟩; rw [HF.out])
      try rw [Exit.noGoto_ret]
      go_ret
      exact ⟨rfl, γ3, (H3.out.setLeast f2.min).drewN m3⟩
    · rw [if_neg (by decide)]
      have HF := Lib.hid hv
      clear hv
      go_enter Tryd.func121, Tryd.ntmps121
      go_wp2_with fail
      refine wp_scope_once 0 rfl ?_
      go_wp2_with (go_at_call 177; refine (q1_may32 H.out t).mono ?_; rintro e w' ⟨rfl, m, rfl⟩; rw [HM.out])
      go_step3
      try simp only [Exit.then]
      refine ⟨rfl, ?_⟩
      go_wp2_with fail
      try go_step3
      go_wp2_with fail
      have hG := H.out.drewN m
      generalize w.drewN m = W1 at hG ⊢
      clear g0 g1 g4 g5 g8 g9 g10 g11 z10 z11 hg r1 r3 r4 r6 r7 r8 zr hr
      obtain ⟨g0, g1, g4, g5, g8, g9, g10, g11, z10, z11, hg⟩ := hG.seq
      obtain ⟨r1, r3, r4, r6, r7, r8, zr, hr⟩ := hG.reg
      try dsimp only at r1 r3 r4 r6 r7 r8
      have HSC := Lib.hid (fun W (hW : Below W1.heap.size W1 W) => HS0.out W (hG.bel hW))
      clear hG
      go_region_held3 (fun w' => w'.cell? ⟨P.g, 0, none⟩ = some (.pointer (some ⟨P.p, 0, none⟩)) ∧ w'.cell? ⟨P.g, 8, none⟩ = some (.slice q.ea q.ends.length q.ec)) (go_keep) (first
        | (go_at_call 37; refine (HSC.out _ (by repeat (with_reducible first | exact Below.refl _ _ | refine Below.drew ?_ | refine below_drewN ?_ _))).mono ?_; rintro e w3 ⟨rfl, γ3, h3⟩; obtain ⟨k0, k1, k4, k5, k8, k9, k10, k11, y10, y11, kg⟩ := h3.seq; obtain ⟨l1, l3, l4, l6, l7, l8, yr, lr⟩ := h3.reg; have H3 := Lib.hid h3; clear h3))
      go_wp2_with (go_at_call 178; refine (q1_fits32 (H3.out.setLeast f2.min)).mono ?_; rintro e w' ⟨rfl, m3, rfl⟩; rw [HF.out])
      try go_step3
      go_wp2_with fail
      have hG := (H3.out.setLeast f2.min).drewN m3
      generalize ((w3.setCell ⟨P.g, 11, none⟩ (.int .u32 f2.min)).drewN m3) = WW at hG ⊢
      clear k0 k1 k4 k5 k8 k9 k10 k11 y10 y11 kg l1 l3 l4 l6 l7 l8 yr lr
      clear g0 g1 g4 g5 g8 g9 g10 g11 z10 z11 hg r1 r3 r4 r6 r7 r8 zr hr
      obtain ⟨g0, g1, g4, g5, g8, g9, g10, g11, z10, z11, hg⟩ := hG.seq
      obtain ⟨r1, r3, r4, r6, r7, r8, zr, hr⟩ := hG.reg
      try dsimp only at r1 r3 r4 r6 r7 r8
      have HG := Lib.hid hG
      clear hG
      go_region_with (first | (go_at_call 35; refine (add32 _ _ _).mono ?_; rintro e w' ⟨rfl, rfl⟩))
      all_goals
        go_wp2_with fail
        have hA := ((HG.out.setNext (addM M32 s.next f2.n)).setPc 0).drew
        generalize ((WW.setCell ⟨P.g, 10, none⟩ (.int .u32 (addM M32 s.next f2.n))).setCell ⟨P.fb, P.o + 3, none⟩ (.int .i64 0)).drew = W2 at hA ⊢
        clear g0 g1 g4 g5 g8 g9 g10 g11 z10 z11 hg r1 r3 r4 r6 r7 r8 zr hr
        obtain ⟨g0, g1, g4, g5, g8, g9, g10, g11, z10, z11, hg⟩ := hA.seq
        obtain ⟨r1, r3, r4, r6, r7, r8, zr, hr⟩ := hA.reg
        try dsimp only at r1 r3 r4 r6 r7 r8
        have HNT := Lib.hid (fun W (hW : Below W2.heap.size W2 W) => q1_note32 (hA.bel hW) HE1.out ⟨3, t, 0, f2.n, f2.from_, 0⟩)
        clear hA
        go_region_held3 (fun w' => w'.cell? ⟨P.g, 1, none⟩ = some (.pointer (some ⟨P.lg, 0, none⟩)) ∧ w'.cell? ⟨P.fb, P.o + 1, none⟩ = some (.int .i64 f2.n) ∧ w'.cell? ⟨P.fb, P.o + 6, none⟩ = some (.int .u32 f2.from_)) (go_keep) (first
          | (go_at_call 103; refine (up32 _ HUF.out _).mono ?_; rintro e w' ⟨rfl, rfl⟩)
          | (go_at_call 127; refine (HNT.out _ (by repeat (with_reducible first | exact Below.refl _ _ | refine Below.drew ?_ | refine below_drewN ?_ _))).mono ?_; rintro e w5 ⟨rfl, γ5, h5⟩; obtain ⟨_, k1, _, _, _, _, _, _, _, _, _⟩ := h5.seq; obtain ⟨j1, _, _, j6, _, _, _, _⟩ := h5.reg; try dsimp only at j1 j6; have H5 := Lib.hid h5; clear h5))
        go_wp2_with (go_at_call 127; refine (q1_note32 H5.out (HE2.out _) ⟨4, t, 0, 0, 0, 0⟩).mono ?_; rintro e w6 ⟨rfl, γ6, h6⟩; have H6 := Lib.hid h6; clear h6)
        try rw [Exit.noGoto_ret]
        go_ret
        exact ⟨rfl, γ6, H6.out⟩
theorem q1_claimC32 (h : Q132 w0 γ0 S R P q s f w γ) (hf : s.b.Fit M32) (hlen : s.b.log.length ≤ 1000000) (hel : s.ev.length ≤ 999998) (hen : q.ends.length ≤ 1000000) (hni : InM M32 s.next) (t : Int) (hm : mayP q t f = true) (hpc : f.pc ≠ 1) (hft : fitsP M32 q.c.cap s.next f.n s.least = false) :
    Calls Tryd.prog 121 #[.pointer (some ⟨P.g, 0, none⟩), .int .i64 t, .pointer (some ⟨P.fb, P.o, none⟩)] w (Q1End32 w0 γ0 S R P q (scan1 M32 q t s { f with from_ := s.next, pc := 1, i := 0 })) := by
  have hfi : InM M32 ({ f with from_ := s.next, pc := 1, i := 0 } : FrS).from_ := hni
  have H := Lib.hid h
  obtain ⟨g0, g1, g4, g5, g8, g9, g10, g11, z10, z11, hg⟩ := h.seq
  obtain ⟨r1, r3, r4, r6, r7, r8, zr, hr⟩ := h.reg
  obtain ⟨hne1, hne2⟩ := h.ne
  have HM := Lib.hid hm
  have HF0 := Lib.hid (show fitsP M32 q.c.cap ({ f with from_ := s.next } : FrS).from_ ({ f with from_ := s.next } : FrS).n s.least = false by dsimp only; exact hft)
  unfold scan1
  have HUF := Lib.hid (scanP_from M32 s.b t q.ends ({ f with from_ := s.next, pc := 1, i := 0 } : FrS) ▸ hfi)
  have HS0 := Lib.hid (fun W (hW : Q132 w0 γ0 S R P q s ({ f with from_ := s.next, pc := 1, i := 0 } : FrS) W γ) => q1_scan32 hW hf hlen hen t)
  generalize scanP M32 s.b t q.ends ({ f with from_ := s.next, pc := 1, i := 0 } : FrS) = r at *
  obtain ⟨d, b2, f2⟩ := r
  dsimp only at *
  have hpb : (f.pc == 1) = false := by simp [hpc]
  have HE1 := Lib.hid (show s.ev.length ≤ 1000000 by omega)
  have HE2 := Lib.hid (fun a : Ev => show (s.ev ++ [a]).length ≤ 1000000 by rw [List.length_append, List.length_singleton]; omega)
  clear h hm hpc hel hen hf hlen hfi hni hft
  cases d
  · rw [if_pos rfl]
    go_enter Tryd.func121, Tryd.ntmps121
    go_wp2_with fail
    go_step3
    go_wp2_with (first
      | (go_at_call 177; refine (q1_may32 H.out t).mono ?_; rintro e w' ⟨rfl, m, rfl⟩; rw [HM.out])
      | (go_at_call 178; refine (q1_fits32 ((H.out.drewN _).setFrom s.next)).mono ?_; rintro e w' ⟨rfl, m2, rfl⟩; rw [HF0.out]))
    try go_step3
    go_wp2_with fail
    have hG := ((((H.out.drewN m).setFrom s.next).drewN m2).setPc 1).setI 0
    generalize (((((w.drewN m).setCell ⟨P.fb, P.o + 6, none⟩ (.int .u32 s.next)).drewN m2).setCell ⟨P.fb, P.o + 3, none⟩ (.int .i64 1)).setCell ⟨P.fb, P.o + 4, none⟩ (.int .i64 0)) = W1 at hG ⊢
    clear g0 g1 g4 g5 g8 g9 g10 g11 z10 z11 hg r1 r3 r4 r6 r7 r8 zr hr
    obtain ⟨g0, g1, g4, g5, g8, g9, g10, g11, z10, z11, hg⟩ := hG.seq
    obtain ⟨r1, r3, r4, r6, r7, r8, zr, hr⟩ := hG.reg
    try dsimp only at r1 r3 r4 r6 r7 r8
    have HSC := Lib.hid (fun W (hW : Below W1.heap.size W1 W) => HS0.out W (hG.bel hW))
    clear hG
    go_region_held3 (fun w' => w'.cell? ⟨P.g, 0, none⟩ = some (.pointer (some ⟨P.p, 0, none⟩)) ∧ w'.cell? ⟨P.g, 8, none⟩ = some (.slice q.ea q.ends.length q.ec)) (go_keep) (first
      | (go_at_call 37; refine (HSC.out _ (by repeat (with_reducible first | exact Below.refl _ _ | refine Below.drew ?_ | refine below_drewN ?_ _))).mono ?_; rintro e w3 ⟨rfl, γ3, h3⟩; obtain ⟨k0, k1, k4, k5, k8, k9, k10, k11, y10, y11, kg⟩ := h3.seq; obtain ⟨l1, l3, l4, l6, l7, l8, yr, lr⟩ := h3.reg; have H3 := Lib.hid h3; clear h3))
    go_wp2_with fail
    try rw [Exit.noGoto_ret]
    go_ret
    exact ⟨rfl, γ3, H3.out⟩
  · rw [if_neg (by decide)]
    cases hv : fitsP M32 q.c.cap f2.from_ f2.n f2.min
    · rw [if_pos rfl]
      have HF := Lib.hid hv
      clear hv
      go_enter Tryd.func121, Tryd.ntmps121
      go_wp2_with fail
      go_step3
      go_wp2_with (first
        | (go_at_call 177; refine (q1_may32 H.out t).mono ?_; rintro e w' ⟨rfl, m, rfl⟩; rw [HM.out])
        | (go_at_call 178; refine (q1_fits32 ((H.out.drewN _).setFrom s.next)).mono ?_; rintro e w' ⟨rfl, m2, rfl⟩; rw [HF0.out]))
      try go_step3
      go_wp2_with fail
      have hG := ((((H.out.drewN m).setFrom s.next).drewN m2).setPc 1).setI 0
      generalize (((((w.drewN m).setCell ⟨P.fb, P.o + 6, none⟩ (.int .u32 s.next)).drewN m2).setCell ⟨P.fb, P.o + 3, none⟩ (.int .i64 1)).setCell ⟨P.fb, P.o + 4, none⟩ (.int .i64 0)) = W1 at hG ⊢
      clear g0 g1 g4 g5 g8 g9 g10 g11 z10 z11 hg r1 r3 r4 r6 r7 r8 zr hr
      obtain ⟨g0, g1, g4, g5, g8, g9, g10, g11, z10, z11, hg⟩ := hG.seq
      obtain ⟨r1, r3, r4, r6, r7, r8, zr, hr⟩ := hG.reg
      try dsimp only at r1 r3 r4 r6 r7 r8
      have HSC := Lib.hid (fun W (hW : Below W1.heap.size W1 W) => HS0.out W (hG.bel hW))
      clear hG
      go_region_held3 (fun w' => w'.cell? ⟨P.g, 0, none⟩ = some (.pointer (some ⟨P.p, 0, none⟩)) ∧ w'.cell? ⟨P.g, 8, none⟩ = some (.slice q.ea q.ends.length q.ec)) (go_keep) (first
        | (go_at_call 37; refine (HSC.out _ (by repeat (with_reducible first | exact Below.refl _ _ | refine Below.drew ?_ | refine below_drewN ?_ _))).mono ?_; rintro e w3 ⟨rfl, γ3, h3⟩; obtain ⟨k0, k1, k4, k5, k8, k9, k10, k11, y10, y11, kg⟩ := h3.seq; obtain ⟨l1, l3, l4, l6, l7, l8, yr, lr⟩ := h3.reg; have H3 := Lib.hid h3; clear h3))
      go_wp2_with (go_at_call 178; refine (q1_fits32 (H3.out.setLeast f2.min)).mono ?_; rintro e w' ⟨rfl, m3, rfl⟩; rw [HF.out])
      try rw [Exit.noGoto_ret]
      go_ret
      exact ⟨rfl, γ3, (H3.out.setLeast f2.min).drewN m3⟩
    · rw [if_neg (by decide)]
      have HF := Lib.hid hv
      clear hv
      go_enter Tryd.func121, Tryd.ntmps121
      go_wp2_with fail
      go_step3
      go_wp2_with (first
        | (go_at_call 177; refine (q1_may32 H.out t).mono ?_; rintro e w' ⟨rfl, m, rfl⟩; rw [HM.out])
        | (go_at_call 178; refine (q1_fits32 ((H.out.drewN _).setFrom s.next)).mono ?_; rintro e w' ⟨rfl, m2, rfl⟩; rw [HF0.out]))
      try go_step3
      go_wp2_with fail
      have hG := ((((H.out.drewN m).setFrom s.next).drewN m2).setPc 1).setI 0
      generalize (((((w.drewN m).setCell ⟨P.fb, P.o + 6, none⟩ (.int .u32 s.next)).drewN m2).setCell ⟨P.fb, P.o + 3, none⟩ (.int .i64 1)).setCell ⟨P.fb, P.o + 4, none⟩ (.int .i64 0)) = W1 at hG ⊢
      clear g0 g1 g4 g5 g8 g9 g10 g11 z10 z11 hg r1 r3 r4 r6 r7 r8 zr hr
      obtain ⟨g0, g1, g4, g5, g8, g9, g10, g11, z10, z11, hg⟩ := hG.seq
      obtain ⟨r1, r3, r4, r6, r7, r8, zr, hr⟩ := hG.reg
      try dsimp only at r1 r3 r4 r6 r7 r8
      have HSC := Lib.hid (fun W (hW : Below W1.heap.size W1 W) => HS0.out W (hG.bel hW))
      clear hG
      go_region_held3 (fun w' => w'.cell? ⟨P.g, 0, none⟩ = some (.pointer (some ⟨P.p, 0, none⟩)) ∧ w'.cell? ⟨P.g, 8, none⟩ = some (.slice q.ea q.ends.length q.ec)) (go_keep) (first
        | (go_at_call 37; refine (HSC.out _ (by repeat (with_reducible first | exact Below.refl _ _ | refine Below.drew ?_ | refine below_drewN ?_ _))).mono ?_; rintro e w3 ⟨rfl, γ3, h3⟩; obtain ⟨k0, k1, k4, k5, k8, k9, k10, k11, y10, y11, kg⟩ := h3.seq; obtain ⟨l1, l3, l4, l6, l7, l8, yr, lr⟩ := h3.reg; have H3 := Lib.hid h3; clear h3))
      go_wp2_with (go_at_call 178; refine (q1_fits32 (H3.out.setLeast f2.min)).mono ?_; rintro e w' ⟨rfl, m3, rfl⟩; rw [HF.out])
      try go_step3
      go_wp2_with fail
      have hG := (H3.out.setLeast f2.min).drewN m3
      generalize ((w3.setCell ⟨P.g, 11, none⟩ (.int .u32 f2.min)).drewN m3) = WW at hG ⊢
      clear k0 k1 k4 k5 k8 k9 k10 k11 y10 y11 kg l1 l3 l4 l6 l7 l8 yr lr
      clear g0 g1 g4 g5 g8 g9 g10 g11 z10 z11 hg r1 r3 r4 r6 r7 r8 zr hr
      obtain ⟨g0, g1, g4, g5, g8, g9, g10, g11, z10, z11, hg⟩ := hG.seq
      obtain ⟨r1, r3, r4, r6, r7, r8, zr, hr⟩ := hG.reg
      try dsimp only at r1 r3 r4 r6 r7 r8
      have HG := Lib.hid hG
      clear hG
      go_region_with (first | (go_at_call 35; refine (add32 _ _ _).mono ?_; rintro e w' ⟨rfl, rfl⟩))
      all_goals
        go_wp2_with fail
        have hA := ((HG.out.setNext (addM M32 s.next f2.n)).setPc 0).drew
        generalize ((WW.setCell ⟨P.g, 10, none⟩ (.int .u32 (addM M32 s.next f2.n))).setCell ⟨P.fb, P.o + 3, none⟩ (.int .i64 0)).drew = W2 at hA ⊢
        clear g0 g1 g4 g5 g8 g9 g10 g11 z10 z11 hg r1 r3 r4 r6 r7 r8 zr hr
        obtain ⟨g0, g1, g4, g5, g8, g9, g10, g11, z10, z11, hg⟩ := hA.seq
        obtain ⟨r1, r3, r4, r6, r7, r8, zr, hr⟩ := hA.reg
        try dsimp only at r1 r3 r4 r6 r7 r8
        have HNT := Lib.hid (fun W (hW : Below W2.heap.size W2 W) => q1_note32 (hA.bel hW) HE1.out ⟨3, t, 0, f2.n, f2.from_, 0⟩)
        clear hA
        go_region_held3 (fun w' => w'.cell? ⟨P.g, 1, none⟩ = some (.pointer (some ⟨P.lg, 0, none⟩)) ∧ w'.cell? ⟨P.fb, P.o + 1, none⟩ = some (.int .i64 f2.n) ∧ w'.cell? ⟨P.fb, P.o + 6, none⟩ = some (.int .u32 f2.from_)) (go_keep) (first
          | (go_at_call 103; refine (up32 _ HUF.out _).mono ?_; rintro e w' ⟨rfl, rfl⟩)
          | (go_at_call 127; refine (HNT.out _ (by repeat (with_reducible first | exact Below.refl _ _ | refine Below.drew ?_ | refine below_drewN ?_ _))).mono ?_; rintro e w5 ⟨rfl, γ5, h5⟩; obtain ⟨_, k1, _, _, _, _, _, _, _, _, _⟩ := h5.seq; obtain ⟨j1, _, _, j6, _, _, _, _⟩ := h5.reg; try dsimp only at j1 j6; have H5 := Lib.hid h5; clear h5))
        go_wp2_with (go_at_call 127; refine (q1_note32 H5.out (HE2.out _) ⟨4, t, 0, 0, 0, 0⟩).mono ?_; rintro e w6 ⟨rfl, γ6, h6⟩; have H6 := Lib.hid h6; clear h6)
        try rw [Exit.noGoto_ret]
        go_ret
        exact ⟨rfl, γ6, H6.out⟩
theorem q1_claim32 (h : Q132 w0 γ0 S R P q s f w γ) (hf : s.b.Fit M32) (hlen : s.b.log.length ≤ 1000000) (hel : s.ev.length ≤ 999998) (hen : q.ends.length ≤ 1000000) (hfi : InM M32 f.from_) (hni : InM M32 s.next) (t : Int) :
    Calls Tryd.prog 121 #[.pointer (some ⟨P.g, 0, none⟩), .int .i64 t, .pointer (some ⟨P.fb, P.o, none⟩)] w (Q1End32 w0 γ0 S R P q (claim1 M32 q t s f)) := by
  unfold claim1
  cases hm : mayP q t f
  · rw [if_pos rfl]; exact q1_claimN32 h t hm
  · rw [if_neg (by decide)]
    by_cases hpc : f.pc = 1
    · rw [if_pos hpc]; exact q1_claimS32 h hf hlen hel hen hfi t hm hpc
    · rw [if_neg hpc]
      cases hft : fitsP M32 q.c.cap s.next f.n s.least
      · rw [if_neg (by decide)]; exact q1_claimC32 h hf hlen hel hen hni t hm hpc hft
      · rw [if_pos rfl]; exact q1_claimD32 h hel hni t hm hpc hft
end
section
set_option maxRecDepth 100000
variable {w0 w : World} {γ0 γ : Nat → Nat} {S : Nat → Prop} {R : List It} {P : QP} {q : SqC} {s : Sq1} {f : FrS}
theorem q1_publish32 (h : Q132 w0 γ0 S R P q s f w γ) (hf : s.b.Fit M32) (hlen : s.b.log.length ≤ 1000000) (hel : s.ev.length ≤ 999998) (hen : q.ends.length ≤ 1000000) (hfi : InM M32 f.from_) (t : Int) :
    Calls Tryd.prog 122 #[.pointer (some ⟨P.g, 0, none⟩), .int .i64 t, .pointer (some ⟨P.fb, P.o, none⟩)] w (Q1End32 w0 γ0 S R P q (publish1 M32 q t s f)) := by
  unfold publish1
  have H := Lib.hid h
  obtain ⟨g0, g1, g4, g5, g8, g9, g10, g11, z10, z11, hg⟩ := h.seq
  obtain ⟨r1, r3, r4, r6, r7, r8, zr, hr⟩ := h.reg
  obtain ⟨hne1, hne2⟩ := h.ne
  cases hm : mayP q t f
  · rw [if_pos rfl]
    have HM := Lib.hid hm
    clear h hm
    go_enter Tryd.func122, Tryd.ntmps122
    go_wp2_with (go_at_call 177; refine (q1_may32 H.out t).mono ?_; rintro e w' ⟨rfl, m, rfl⟩; rw [HM.out])
    go_ret
    exact ⟨rfl, γ, H.out.drewN m⟩
  · rw [if_neg (by decide)]
    have HM := Lib.hid hm
    have HST := Lib.hid (fun W (hW : Q132 w0 γ0 S R P q s f W γ) => q1_store32 hW hf hlen t q.cell (addM M32 f.from_ f.n) (addM_in32 _ _))
    have HE1 := Lib.hid (show s.ev.length ≤ 1000000 by omega)
    have HNI := Lib.hid hfi
    clear h hm hel hf hlen hen hfi
    go_enter Tryd.func122, Tryd.ntmps122
    go_wp2_with (go_at_call 177; refine (q1_may32 H.out t).mono ?_; rintro e w' ⟨rfl, m, rfl⟩; rw [HM.out])
    have hG := H.out.drewN m
    generalize w.drewN m = W1 at hG ⊢
    clear g0 g1 g4 g5 g8 g9 g10 g11 z10 z11 hg r1 r3 r4 r6 r7 r8 zr hr
    obtain ⟨g0, g1, g4, g5, g8, g9, g10, g11, z10, z11, hg⟩ := hG.seq
    obtain ⟨r1, r3, r4, r6, r7, r8, zr, hr⟩ := hG.reg
    try dsimp only at r1 r3 r4 r6 r7 r8
    have HSC := Lib.hid (fun W (hW : Below W1.heap.size W1 W) => HST.out W (hG.bel hW))
    clear hG
    go_region_held3 (fun w' => w'.cell? ⟨P.g, 0, none⟩ = some (.pointer (some ⟨P.p, 0, none⟩)) ∧ w'.cell? ⟨P.g, 9, none⟩ = some (.int .i64 q.cell) ∧ w'.cell? ⟨P.fb, P.o + 6, none⟩ = some (.int .u32 f.from_) ∧ w'.cell? ⟨P.fb, P.o + 1, none⟩ = some (.int .i64 f.n)) (go_keep) (first
      | (go_at_call 35; refine (add32 _ _ _).mono ?_; rintro e w' ⟨rfl, rfl⟩)
      | (go_at_call 31; refine (HSC.out _ (by repeat (with_reducible first | exact Below.refl _ _ | refine Below.drew ?_ | refine below_drewN ?_ _))).mono ?_; rintro e w3 ⟨rfl, γ3, h3⟩; obtain ⟨k0, k1, k4, k5, k8, k9, k10, k11, y10, y11, kg⟩ := h3.seq; obtain ⟨l1, l3, l4, l6, l7, l8, yr, lr⟩ := h3.reg; have H3 := Lib.hid h3; clear h3))
    go_wp2_with fail
    have HNT := Lib.hid (fun W (hW : Below w3.heap.size w3 W) => q1_note32 (H3.out.bel hW) HE1.out ⟨5, t, 0, f.n, f.from_, 0⟩)
    clear g0 g1 g4 g5 g8 g9 g10 g11 z10 z11 hg r1 r3 r4 r6 r7 r8 zr hr
    go_region_held3 (fun w' => w'.cell? ⟨P.g, 1, none⟩ = some (.pointer (some ⟨P.lg, 0, none⟩)) ∧ w'.cell? ⟨P.fb, P.o + 1, none⟩ = some (.int .i64 f.n) ∧ w'.cell? ⟨P.fb, P.o + 6, none⟩ = some (.int .u32 f.from_)) (go_keep) (first
      | (go_at_call 103; refine (up32 _ HNI.out _).mono ?_; rintro e w' ⟨rfl, rfl⟩)
      | (go_at_call 127; refine (HNT.out _ (by repeat (with_reducible first | exact Below.refl _ _ | refine Below.drew ?_ | refine below_drewN ?_ _))).mono ?_; rintro e w5 ⟨rfl, γ5, h5⟩; obtain ⟨_, k1, _, _, _, _, _, _, _, _, _⟩ := h5.seq; obtain ⟨j1, _, _, j6, _, _, _, _⟩ := h5.reg; have H5 := Lib.hid h5; clear h5))
    go_wp2_with fail
    go_ret
    exact ⟨rfl, γ5, H5.out⟩
end
section
set_option maxRecDepth 100000
variable {w0 w : World} {γ0 γ : Nat → Nat} {S : Nat → Prop} {R : List It} {P : QP} {q : SqC} {s : Sq1} {f : FrS}
theorem q1_tip32 (h : Q132 w0 γ0 S R P q s f w γ) (hf : s.b.Fit M32) (hlen : s.b.log.length ≤ 1000000) (t : Int) :
    Calls Tryd.prog 123 #[.pointer (some ⟨P.g, 0, none⟩), .int .i64 t, .pointer (some ⟨P.fb, P.o, none⟩)] w (Q1End32 w0 γ0 S R P q (tip1 q t s f)) := by
  have H := Lib.hid h
  obtain ⟨g0, g1, g4, g5, g8, g9, g10, g11, z10, z11, hg⟩ := h.seq
  obtain ⟨r1, r3, r4, r6, r7, r8, zr, hr⟩ := h.reg
  obtain ⟨hne1, hne2⟩ := h.ne
  have HSC := Lib.hid (fun W (hW : Below w.heap.size w W) => q1_load32 (h.bel hW) hf hlen t q.cell)
  clear h hf hlen
  unfold tip1
  generalize s.b.load t q.cell = r at *
  obtain ⟨v, b2⟩ := r
  dsimp only at *
  go_enter Tryd.func123, Tryd.ntmps123
  go_wp2_with fail
  go_region_held3 (fun w' => w'.cell? ⟨P.g, 0, none⟩ = some (.pointer (some ⟨P.p, 0, none⟩)) ∧ w'.cell? ⟨P.g, 9, none⟩ = some (.int .i64 q.cell)) (go_keep) (first
    | (go_at_call 104; refine (HSC.out _ (by repeat (with_reducible first | exact Below.refl _ _ | refine Below.drew ?_ | refine below_drewN ?_ _))).mono ?_; rintro e w3 ⟨rfl, γ3, h3⟩; obtain ⟨k0, k1, k4, k5, k8, k9, k10, k11, y10, y11, kg⟩ := h3.seq; obtain ⟨l1, l3, l4, l6, l7, l8, yr, lr⟩ := h3.reg; have H3 := Lib.hid h3; clear h3))
  go_wp2_with fail
  go_ret
  exact ⟨rfl, γ3, H3.out.setVal v⟩
end
/-- what lies around a call -/
def Q164 (w0 : World) (γ0 : Nat → Nat) (S : Nat → Prop) (R : List It) (P : QP) (q : SqC) (s : Sq1) (f : FrS) (w : World) (γ : Nat → Nat) : Prop :=
  Its w0 γ0 S (itB 142 22 208 .u64 P.ib P.p s.b :: itL 155 162 P.il P.lg s.ev :: itS1 158 .u64 P.is_ P.g P.p P.lg q s.next s.least :: P.fr .u64 f :: R) w γ
def Q1End64 (w0 : World) (γ0 : Nat → Nat) (S : Nat → Prop) (R : List It) (P : QP) (q : SqC) (r : Bool × Sq1 × FrS) (e : Ending) (w' : World) : Prop :=
  e = .returned (.bool r.1) ∧ ∃ γ', Q164 w0 γ0 S R P q r.2.1 r.2.2 w' γ'
section
variable {w0 w w' : World} {γ0 γ : Nat → Nat} {S : Nat → Prop} {R : List It} {P : QP} {q : SqC} {s : Sq1} {f f' : FrS}
theorem Q164.seq (h : Q164 w0 γ0 S R P q s f w γ) : w.cell? ⟨P.g, 0, none⟩ = some (.pointer (some ⟨P.p, 0, none⟩)) ∧ w.cell? ⟨P.g, 1, none⟩ = some (.pointer (some ⟨P.lg, 0, none⟩)) ∧ w.cell? ⟨P.g, 4, none⟩ = some (.int .i64 q.c.cap) ∧ w.cell? ⟨P.g, 5, none⟩ = some (.int .i64 q.c.producers)
    ∧ w.cell? ⟨P.g, 8, none⟩ = some (.slice q.ea q.ends.length q.ec) ∧ w.cell? ⟨P.g, 9, none⟩ = some (.int .i64 q.cell) ∧ w.cell? ⟨P.g, 10, none⟩ = some (.int .u64 s.next) ∧ w.cell? ⟨P.g, 11, none⟩ = some (.int .u64 s.least) ∧ w.frozen? ⟨P.g, 10, none⟩ = false ∧ w.frozen? ⟨P.g, 11, none⟩ = false ∧ P.g < w.heap.size := by
  have hb : Seq1At 158 .u64 w γ P.is_ P.g P.p P.lg q s.next s.least := Its.g2 h
  exact ⟨hb.1.cell 0, hb.1.cell 1, hb.1.cell 4, hb.1.cell 5, hb.1.cell 8, hb.1.cell 9, hb.1.cell 10, hb.1.cell 11, hb.1.frozen 10, hb.1.frozen 11, hb.1.lt⟩
theorem Q164.ends (h : Q164 w0 γ0 S R P q s f w γ) : IntsAt w (fun b => b < w.heap.size) q.ea q.ends := by
  have hb : Seq1At 158 .u64 w γ P.is_ P.g P.p P.lg q s.next s.least := Its.g2 h
  exact ints_of_own hb.2.2.1 (fun g _ h => h)
theorem Q164.reg (h : Q164 w0 γ0 S R P q s f w γ) : w.cell? ⟨P.fb, P.o + 1, none⟩ = some (.int .i64 f.n) ∧ w.cell? ⟨P.fb, P.o + 3, none⟩ = some (.int .i64 f.pc) ∧ w.cell? ⟨P.fb, P.o + 4, none⟩ = some (.int .i64 f.i) ∧ w.cell? ⟨P.fb, P.o + 6, none⟩ = some (.int .u64 f.from_) ∧ w.cell? ⟨P.fb, P.o + 7, none⟩ = some (.int .u64 f.min) ∧ w.cell? ⟨P.fb, P.o + 8, none⟩ = some (.int .u64 f.val)
    ∧ (∀ k, w.frozen? ⟨P.fb, k, none⟩ = false) ∧ P.fb < w.heap.size := by
  have hb : Blk w P.fb P.T (frsCs .u64 P.pre (P.fs.set P.t f) P.post) ∧ γ P.fb = P.ifr := Its.g3 h
  exact ⟨QP.cell hb.1 1 (by omega), QP.cell hb.1 3 (by omega), QP.cell hb.1 4 (by omega), QP.cell hb.1 6 (by omega), QP.cell hb.1 7 (by omega), QP.cell hb.1 8 (by omega), fun k => hb.1.frozen k, hb.1.lt⟩
theorem Q164.ne (h : Q164 w0 γ0 S R P q s f w γ) : P.g ≠ P.fb ∧ P.fb ≠ P.g := by
  have hb : Blk w P.fb P.T (frsCs .u64 P.pre (P.fs.set P.t f) P.post) ∧ γ P.fb = P.ifr := Its.g3 h
  have hs : Seq1At 158 .u64 w γ P.is_ P.g P.p P.lg q s.next s.least := Its.g2 h
  have hn : P.is_ ≠ P.ifr := Its.nid h (k := 2) (m := 3) rfl rfl (by decide)
  exact ⟨fun e => hn (by rw [← hs.2.1, ← hb.2, e]), fun e => hn (by rw [← hs.2.1, ← hb.2, e])⟩
theorem Q164.bel (h : Q164 w0 γ0 S R P q s f w γ) (hb : Below w.heap.size w w') : Q164 w0 γ0 S R P q s f w' γ := Its.below h hb
theorem Q164.drewN (h : Q164 w0 γ0 S R P q s f w γ) (n : Nat) : Q164 w0 γ0 S R P q s f (w.drewN n) γ := Its.drewN h n
theorem Q164.drew (h : Q164 w0 γ0 S R P q s f w γ) : Q164 w0 γ0 S R P q s f w.drew γ := Its.below h (Below.drew (Below.refl _ _))
theorem q1_may64 (h : Q164 w0 γ0 S R P q s f w γ) (t : Int) : Calls Tryd.prog 125 #[.pointer (some ⟨P.g, 0, none⟩), .int .i64 t, .pointer (some ⟨P.fb, P.o, none⟩)] w fun e w' => e = .returned (.bool (mayP q t f)) ∧ ∃ m, w' = w.drewN m :=
  may_one64 w P.g P.fb P.o q f t h.seq.2.2.2.1 h.seq.2.2.1 h.reg.1
theorem q1_scan64 (h : Q164 w0 γ0 S R P q s f w γ) (hf : s.b.Fit M64) (hlen : s.b.log.length ≤ 1000000) (hen : q.ends.length ≤ 1000000) (t : Int) : Calls Tryd.prog 40 #[.pointer (some ⟨P.p, 0, none⟩), .int .i64 t, .slice q.ea q.ends.length q.ec, .pointer (some ⟨P.fb, P.o, none⟩)] w
    fun e w' => e = .returned (.bool (scanP M64 s.b t q.ends f).1) ∧ ∃ γ', Q164 w0 γ0 S R P q { s with b := (scanP M64 s.b t q.ends f).2.1 } (scanP M64 s.b t q.ends f).2.2 w' γ' := by
  have hne : P.ifr ≠ P.ib := Its.ne03 h
  exact (gscan64 (P.bf hne) w γ w γ s.b f (Its.bfAt h hne) hf hlen t q.ea q.ends q.ec _ h.ends hen).mono fun e w' hq => Its.bfEnd h hne hq
theorem q1_note64 (h : Q164 w0 γ0 S R P q s f w γ) (hlen : s.ev.length ≤ 1000000) (a : Ev) : Calls Tryd.prog 127 #[.pointer (some ⟨P.lg, 0, none⟩), .agg #[.int .i64 a.kind, .int .i64 a.thread, .int .i64 a.op, .int .i64 a.n, .int .u64 a.pos, .int .i64 a.code, .slice none 0 0]] w
    fun e w' => e = .returned (.tuple #[]) ∧ ∃ γ', Q164 w0 γ0 S R P q { s with ev := s.ev ++ [a] } f w' γ' := by
  have hl : LogAt 155 162 w γ P.il P.lg s.ev := Its.g1 h
  exact (evNote w γ P.il P.lg s.ev hl hlen a).mono fun e w' hq => Its.one1 h rfl hq
theorem q1_load64 (h : Q164 w0 γ0 S R P q s f w γ) (hf : s.b.Fit M64) (hlen : s.b.log.length ≤ 1000000) (t k : Int) : Calls Tryd.prog 108 #[.pointer (some ⟨P.p, 0, none⟩), .int .i64 t, .int .i64 k] w
    fun e w' => e = .returned (.int .u64 (s.b.load t k).1) ∧ ∃ γ', Q164 w0 γ0 S R P q { s with b := (s.b.load t k).2 } f w' γ' :=
  (bLoad64 w γ P.ib P.p s.b (Its.g0 h) hf.ok hlen t k).mono fun e w' hq => Its.mut0 h hq
theorem q1_store64 (h : Q164 w0 γ0 S R P q s f w γ) (hf : s.b.Fit M64) (hlen : s.b.log.length ≤ 1000000) (t k v : Int) (hv : InM M64 v) : Calls Tryd.prog 56 #[.pointer (some ⟨P.p, 0, none⟩), .int .i64 t, .int .i64 k, .int .u64 v] w
    fun e w' => e = .returned (.tuple #[]) ∧ ∃ γ', Q164 w0 γ0 S R P q { s with b := s.b.store t k v } f w' γ' :=
  (bStore64 w γ P.ib P.p s.b (Its.g0 h) hf.ok hlen t k v hv).mono fun e w' hq => Its.mut0 h hq
theorem Q164.setPc (h : Q164 w0 γ0 S R P q s f w γ) (x : Int) : Q164 w0 γ0 S R P q s { f with pc := x } (w.setCell ⟨P.fb, P.o + 3, none⟩ (.int .i64 x)) γ := Its.setPc h x
theorem Q164.setI (h : Q164 w0 γ0 S R P q s f w γ) (x : Int) : Q164 w0 γ0 S R P q s { f with i := x } (w.setCell ⟨P.fb, P.o + 4, none⟩ (.int .i64 x)) γ := Its.setI h x
theorem Q164.setFrom (h : Q164 w0 γ0 S R P q s f w γ) (x : Int) : Q164 w0 γ0 S R P q s { f with from_ := x } (w.setCell ⟨P.fb, P.o + 6, none⟩ (.int .u64 x)) γ := Its.setFrom h x
theorem Q164.setVal (h : Q164 w0 γ0 S R P q s f w γ) (x : Int) : Q164 w0 γ0 S R P q s { f with val := x } (w.setCell ⟨P.fb, P.o + 8, none⟩ (.int .u64 x)) γ := Its.setVal h x
theorem Q164.setNext (h : Q164 w0 γ0 S R P q s f w γ) (x : Int) : Q164 w0 γ0 S R P q { s with next := x } f (w.setCell ⟨P.g, 10, none⟩ (.int .u64 x)) γ := Its.setNext (by decide) h x
theorem Q164.setLeast (h : Q164 w0 γ0 S R P q s f w γ) (x : Int) : Q164 w0 γ0 S R P q { s with least := x } f (w.setCell ⟨P.g, 11, none⟩ (.int .u64 x)) γ := Its.setLeast (by decide) h x
end
section
variable {w0 w : World} {γ0 γ : Nat → Nat} {S : Nat → Prop} {R : List It} {P : QP} {q : SqC} {s : Sq1} {f : FrS}
theorem q1_fits64 (h : Q164 w0 γ0 S R P q s f w γ) : Calls Tryd.prog 126 #[.pointer (some ⟨P.g, 0, none⟩), .pointer (some ⟨P.fb, P.o, none⟩)] w fun e w' => e = .returned (.bool (fitsP M64 q.c.cap f.from_ f.n s.least)) ∧ ∃ m, w' = w.drewN m := by
  obtain ⟨g0, g1, g4, g5, g8, g9, g10, g11, z10, z11, hg⟩ := h.seq
  obtain ⟨r1, r3, r4, r6, r7, r8, zr, hr⟩ := h.reg
  clear h
  go_enter Tryd.func126, Tryd.ntmps126
  go_wp2_with fail
  go_quiet ((go_at_call 179; exact quiet_left (gfits64 _ _ _ _ _)))
  go_wp2_with fail
  go_ret
  exact ⟨rfl, _, rfl⟩
end
section
set_option maxRecDepth 100000
variable {w0 w : World} {γ0 γ : Nat → Nat} {S : Nat → Prop} {R : List It} {P : QP} {q : SqC} {s : Sq1} {f : FrS}
theorem q1_claimN64 (h : Q164 w0 γ0 S R P q s f w γ) (t : Int) (hm : mayP q t f = false) :
    Calls Tryd.prog 52 #[.pointer (some ⟨P.g, 0, none⟩), .int .i64 t, .pointer (some ⟨P.fb, P.o, none⟩)] w (Q1End64 w0 γ0 S R P q (true, s, f)) := by
  have H := Lib.hid h
  have HM := Lib.hid hm
  clear h hm
  go_enter Tryd.func52, Tryd.ntmps52
  go_wp2_with fail
  go_step3
  go_wp2_with (go_at_call 125; refine (q1_may64 H.out t).mono ?_; rintro e w' ⟨rfl, m, rfl⟩; rw [HM.out])
  try rw [Exit.noGoto_ret]
  go_ret
  exact ⟨rfl, γ, H.out.drewN m⟩
theorem q1_claimD64 (h : Q164 w0 γ0 S R P q s f w γ) (hel : s.ev.length ≤ 999998) (hni : InM M64 s.next) (t : Int) (hm : mayP q t f = true) (hpc : f.pc ≠ 1) (hft : fitsP M64 q.c.cap s.next f.n s.least = true) :
    Calls Tryd.prog 52 #[.pointer (some ⟨P.g, 0, none⟩), .int .i64 t, .pointer (some ⟨P.fb, P.o, none⟩)] w (Q1End64 w0 γ0 S R P q (grant1 M64 t s { f with from_ := s.next })) := by
  have H := Lib.hid h
  obtain ⟨g0, g1, g4, g5, g8, g9, g10, g11, z10, z11, hg⟩ := h.seq
  obtain ⟨r1, r3, r4, r6, r7, r8, zr, hr⟩ := h.reg
  obtain ⟨hne1, hne2⟩ := h.ne
  have HM := Lib.hid hm
  have HF := Lib.hid (show fitsP M64 q.c.cap ({ f with from_ := s.next } : FrS).from_ ({ f with from_ := s.next } : FrS).n s.least = true by dsimp only; exact hft)
  have hpb : (f.pc == 1) = false := by simp [hpc]
  have HE1 := Lib.hid (show s.ev.length ≤ 1000000 by omega)
  have HE2 := Lib.hid (fun a : Ev => show (s.ev ++ [a]).length ≤ 1000000 by rw [List.length_append, List.length_singleton]; omega)
  have HNI := Lib.hid hni
  clear h hm hpc hft hel hni
  go_enter Tryd.func52, Tryd.ntmps52
  go_wp2_with fail
  refine wp_scope_once 1 rfl ?_
  go_wp2_with (first
    | (go_at_call 125; refine (q1_may64 H.out t).mono ?_; rintro e w' ⟨rfl, m, rfl⟩; rw [HM.out])
    | (go_at_call 126; refine (q1_fits64 ((H.out.drewN _).setFrom s.next)).mono ?_; rintro e w' ⟨rfl, m2, rfl⟩; rw [HF.out]))
  go_step3
  try simp only [Exit.then]
  refine ⟨rfl, ?_⟩
  go_wp2_with fail
  have hG := ((H.out.drewN m).setFrom s.next).drewN m2
  generalize (((w.drewN m).setCell ⟨P.fb, P.o + 6, none⟩ (.int .u64 s.next)).drewN m2) = W1 at hG ⊢
  clear g0 g1 g4 g5 g8 g9 g10 g11 z10 z11 hg r1 r3 r4 r6 r7 r8 zr hr
  obtain ⟨g0, g1, g4, g5, g8, g9, g10, g11, z10, z11, hg⟩ := hG.seq
  obtain ⟨r1, r3, r4, r6, r7, r8, zr, hr⟩ := hG.reg
  try dsimp only at r1 r3 r4 r6 r7 r8
  have HG := Lib.hid hG
  clear hG
  go_region_with (first | (go_at_call 55; refine (add64 _ _ _).mono ?_; rintro e w' ⟨rfl, rfl⟩))
  all_goals
    go_wp2_with fail
    have hA := ((HG.out.setNext (addM M64 s.next f.n)).setPc 0).drew
    generalize ((W1.setCell ⟨P.g, 10, none⟩ (.int .u64 (addM M64 s.next f.n))).setCell ⟨P.fb, P.o + 3, none⟩ (.int .i64 0)).drew = W2 at hA ⊢
    clear g0 g1 g4 g5 g8 g9 g10 g11 z10 z11 hg r1 r3 r4 r6 r7 r8 zr hr
    obtain ⟨g0, g1, g4, g5, g8, g9, g10, g11, z10, z11, hg⟩ := hA.seq
    obtain ⟨r1, r3, r4, r6, r7, r8, zr, hr⟩ := hA.reg
    try dsimp only at r1 r3 r4 r6 r7 r8
    have HNT := Lib.hid (fun W (hW : Below W2.heap.size W2 W) => q1_note64 (hA.bel hW) HE1.out ⟨3, t, 0, f.n, s.next, 0⟩)
    clear hA
    go_region_held3 (fun w' => w'.cell? ⟨P.g, 1, none⟩ = some (.pointer (some ⟨P.lg, 0, none⟩)) ∧ w'.cell? ⟨P.fb, P.o + 1, none⟩ = some (.int .i64 f.n) ∧ w'.cell? ⟨P.fb, P.o + 6, none⟩ = some (.int .u64 s.next)) (go_keep) (first
      | (go_at_call 128; refine (up64 _ HNI.out _).mono ?_; rintro e w' ⟨rfl, rfl⟩)
      | (go_at_call 127; refine (HNT.out _ (by repeat (with_reducible first | exact Below.refl _ _ | refine Below.drew ?_ | refine below_drewN ?_ _))).mono ?_; rintro e w5 ⟨rfl, γ5, h5⟩; obtain ⟨_, k1, _, _, _, _, _, _, _, _, _⟩ := h5.seq; obtain ⟨j1, _, _, j6, _, _, _, _⟩ := h5.reg; try dsimp only at j1 j6; have H5 := Lib.hid h5; clear h5))
    go_wp2_with (go_at_call 127; refine (q1_note64 H5.out (HE2.out _) ⟨4, t, 0, 0, 0, 0⟩).mono ?_; rintro e w6 ⟨rfl, γ6, h6⟩; have H6 := Lib.hid h6; clear h6)
    try rw [Exit.noGoto_ret]
    go_ret
    exact ⟨rfl, γ6, H6.out⟩
theorem q1_claimS64 (h : Q164 w0 γ0 S R P q s f w γ) (hf : s.b.Fit M64) (hlen : s.b.log.length ≤ 1000000) (hel : s.ev.length ≤ 999998) (hen : q.ends.length ≤ 1000000) (hfi : InM M64 f.from_) (t : Int) (hm : mayP q t f = true) (hpc : f.pc = 1) :
    Calls Tryd.prog 52 #[.pointer (some ⟨P.g, 0, none⟩), .int .i64 t, .pointer (some ⟨P.fb, P.o, none⟩)] w (Q1End64 w0 γ0 S R P q (scan1 M64 q t s f)) := by
  have H := Lib.hid h
  obtain ⟨g0, g1, g4, g5, g8, g9, g10, g11, z10, z11, hg⟩ := h.seq
  obtain ⟨r1, r3, r4, r6, r7, r8, zr, hr⟩ := h.reg
  obtain ⟨hne1, hne2⟩ := h.ne
  have HM := Lib.hid hm
  unfold scan1
  have HUF := Lib.hid (scanP_from M64 s.b t q.ends f ▸ hfi)
  have HS0 := Lib.hid (fun W (hW : Q164 w0 γ0 S R P q s f W γ) => q1_scan64 hW hf hlen hen t)
  generalize scanP M64 s.b t q.ends f = r at *
  obtain ⟨d, b2, f2⟩ := r
  dsimp only at *
  have hpb : (f.pc == 1) = true := by simp [hpc]
  have HE1 := Lib.hid (show s.ev.length ≤ 1000000 by omega)
  have HE2 := Lib.hid (fun a : Ev => show (s.ev ++ [a]).length ≤ 1000000 by rw [List.length_append, List.length_singleton]; omega)
  clear h hm hpc hel hen hf hlen hfi
  cases d
  · rw [if_pos rfl]
    go_enter Tryd.func52, Tryd.ntmps52
    go_wp2_with fail
    refine wp_scope_once 0 rfl ?_
    go_wp2_with (go_at_call 125; refine (q1_may64 H.out t).mono ?_; rintro e w' ⟨rfl, m, rfl⟩; rw [HM.out])
    go_step3
    try simp only [Exit.then]
    refine ⟨rfl, ?_⟩
    go_wp2_with fail
    try go_step3
    go_wp2_with fail
    have hG := H.out.drewN m
    generalize w.drewN m = W1 at hG ⊢
    clear g0 g1 g4 g5 g8 g9 g10 g11 z10 z11 hg r1 r3 r4 r6 r7 r8 zr hr
    obtain ⟨g0, g1, g4, g5, g8, g9, g10, g11, z10, z11, hg⟩ := hG.seq
    obtain ⟨r1, r3, r4, r6, r7, r8, zr, hr⟩ := hG.reg
    try dsimp only at r1 r3 r4 r6 r7 r8
    have HSC := Lib.hid (fun W (hW : Below W1.heap.size W1 W) => HS0.out W (hG.bel hW))
    clear hG
    go_region_held3 (fun w' => w'.cell? ⟨P.g, 0, none⟩ = some (.pointer (some ⟨P.p, 0, none⟩)) ∧ w'.cell? ⟨P.g, 8, none⟩ = some (.slice q.ea q.ends.length q.ec)) (go_keep) (first
      | (go_at_call 40; refine (HSC.out _ (by repeat (with_reducible first | exact Below.refl _ _ | refine Below.drew ?_ | refine below_drewN ?_ _))).mono ?_; rintro e w3 ⟨rfl, γ3, h3⟩; obtain ⟨k0, k1, k4, k5, k8, k9, k10, k11, y10, y11, kg⟩ := h3.seq; obtain ⟨l1, l3, l4, l6, l7, l8, yr, lr⟩ := h3.reg; have H3 := Lib.hid h3; clear h3))
    go_wp2_with fail
    try rw [Exit.noGoto_ret]
    go_ret
    exact ⟨rfl, γ3, H3.out⟩
  · rw [if_neg (by decide)]
    cases hv : fitsP M64 q.c.cap f2.from_ f2.n f2.min
    · rw [if_pos rfl]
      have HF := Lib.hid hv
      clear hv
      go_enter Tryd.func52, Tryd.ntmps52
      go_wp2_with fail
      refine wp_scope_once 0 rfl ?_
      go_wp2_with (go_at_call 125; refine (q1_may64 H.out t).mono ?_; rintro e w' ⟨rfl, m, rfl⟩; rw [HM.out])
      go_step3
      try simp only [Exit.then]
      refine ⟨rfl, ?_⟩
      go_wp2_with fail
      try go_step3
      go_wp2_with fail
      have hG := H.out.drewN m
      generalize w.drewN m = W1 at hG ⊢
      clear g0 g1 g4 g5 g8 g9 g10 g11 z10 z11 hg r1 r3 r4 r6 r7 r8 zr hr
      obtain ⟨g0, g1, g4, g5, g8, g9, g10, g11, z10, z11, hg⟩ := hG.seq
      obtain ⟨r1, r3, r4, r6, r7, r8, zr, hr⟩ := hG.reg
      try dsimp only at r1 r3 r4 r6 r7 r8
      have HSC := Lib.hid (fun W (hW : Below W1.heap.size W1 W) => HS0.out W (hG.bel hW))
      clear hG
      go_region_held3 (fun w' => w'.cell? ⟨P.g, 0, none⟩ = some (.pointer (some ⟨P.p, 0, none⟩)) ∧ w'.cell? ⟨P.g, 8, none⟩ = some (.slice q.ea q.ends.length q.ec)) (go_keep) (first
        | (go_at_call 40; refine (HSC.out _ (by repeat (with_reducible first | exact Below.refl _ _ | refine Below.drew ?_ | refine below_drewN ?_ _))).mono ?_; rintro e w3 ⟨rfl, γ3, h3⟩; obtain ⟨k0, k1, k4, k5, k8, k9, k10, k11, y10, y11, kg⟩ := h3.seq; obtain ⟨l1, l3, l4, l6, l7, l8, yr, lr⟩ := h3.reg; have H3 := Lib.hid h3; clear h3))
      go_wp2_with (go_at_call 126; refine (q1_fits64 (H3.out.setLeast f2.min)).mono ?_; rintro e w' ⟨rfl, m3, rfl⟩; rw [HF.out])
      try rw [Exit.noGoto_ret]
      go_ret
      exact ⟨rfl, γ3, (H3.out.setLeast f2.min).drewN m3⟩
    · rw [if_neg (by decide)]
      have HF := Lib.hid hv
      clear hv
      go_enter Tryd.func52, Tryd.ntmps52
      go_wp2_with fail
      refine wp_scope_once 0 rfl ?_
      go_wp2_with (go_at_call 125; refine (q1_may64 H.out t).mono ?_; rintro e w' ⟨rfl, m, rfl⟩; rw [HM.out])
      go_step3
      try simp only [Exit.then]
      refine ⟨rfl, ?_⟩
      go_wp2_with fail
      try go_step3
      go_wp2_with fail
      have hG := H.out.drewN m
      generalize w.drewN m = W1 at hG ⊢
      clear g0 g1 g4 g5 g8 g9 g10 g11 z10 z11 hg r1 r3 r4 r6 r7 r8 zr hr
      obtain ⟨g0, g1, g4, g5, g8, g9, g10, g11, z10, z11, hg⟩ := hG.seq
      obtain ⟨r1, r3, r4, r6, r7, r8, zr, hr⟩ := hG.reg
      try dsimp only at r1 r3 r4 r6 r7 r8
      have HSC := Lib.hid (fun W (hW : Below W1.heap.size W1 W) => HS0.out W (hG.bel hW))
      clear hG
      go_region_held3 (fun w' => w'.cell? ⟨P.g, 0, none⟩ = some (.pointer (some ⟨P.p, 0, none⟩)) ∧ w'.cell? ⟨P.g, 8, none⟩ = some (.slice q.ea q.ends.length q.ec)) (go_keep) (first
        | (go_at_call 40; refine (HSC.out _ (by repeat (with_reducible first | exact Below.refl _ _ | refine Below.drew ?_ | refine below_drewN ?_ _))).mono ?_; rintro e w3 ⟨rfl, γ3, h3⟩; obtain ⟨k0, k1, k4, k5, k8, k9, k10, k11, y10, y11, kg⟩ := h3.seq; obtain ⟨l1, l3, l4, l6, l7, l8, yr, lr⟩ := h3.reg; have H3 := Lib.hid h3; clear h3))
      go_wp2_with (go_at_call 126; refine (q1_fits64 (H3.out.setLeast f2.min)).mono ?_; rintro e w' ⟨rfl, m3, rfl⟩; rw [HF.out])
      try go_step3
      go_wp2_with fail
      have hG := (H3.out.setLeast f2.min).drewN m3
      generalize ((w3.setCell ⟨P.g, 11, none⟩ (.int .u64 f2.min)).drewN m3) = WW at hG ⊢
      clear k0 k1 k4 k5 k8 k9 k10 k11 y10 y11 kg l1 l3 l4 l6 l7 l8 yr lr
      clear g0 g1 g4 g5 g8 g9 g10 g11 z10 z11 hg r1 r3 r4 r6 r7 r8 zr hr
      obtain ⟨g0, g1, g4, g5, g8, g9, g10, g11, z10, z11, hg⟩ := hG.seq
      obtain ⟨r1, r3, r4, r6, r7, r8, zr, hr⟩ := hG.reg
      try dsimp only at r1 r3 r4 r6 r7 r8
      have HG := Lib.hid hG
      clear hG
      go_region_with (first | (go_at_call 55; refine (add64 _ _ _).mono ?_; rintro e w' ⟨rfl, rfl⟩))
      all_goals
        go_wp2_with fail
        have hA := ((HG.out.setNext (addM M64 s.next f2.n)).setPc 0).drew
        generalize ((WW.setCell ⟨P.g, 10, none⟩ (.int .u64 (addM M64 s.next f2.n))).setCell ⟨P.fb, P.o + 3, none⟩ (.int .i64 0)).drew = W2 at hA ⊢
        clear g0 g1 g4 g5 g8 g9 g10 g11 z10 z11 hg r1 r3 r4 r6 r7 r8 zr hr
        obtain ⟨g0, g1, g4, g5, g8, g9, g10, g11, z10, z11, hg⟩ := hA.seq
        obtain ⟨r1, r3, r4, r6, r7, r8, zr, hr⟩ := hA.reg
        try dsimp only at r1 r3 r4 r6 r7 r8
        have HNT := Lib.hid (fun W (hW : Below W2.heap.size W2 W) => q1_note64 (hA.bel hW) HE1.out ⟨3, t, 0, f2.n, f2.from_, 0⟩)
        clear hA
        go_region_held3 (fun w' => w'.cell? ⟨P.g, 1, none⟩ = some (.pointer (some ⟨P.lg, 0, none⟩)) ∧ w'.cell? ⟨P.fb, P.o + 1, none⟩ = some (.int .i64 f2.n) ∧ w'.cell? ⟨P.fb, P.o + 6, none⟩ = some (.int .u64 f2.from_)) (go_keep) (first
          | (go_at_call 128; refine (up64 _ HUF.out _).mono ?_; rintro e w' ⟨rfl, rfl⟩)
          | (go_at_call 127; refine (HNT.out _ (by repeat (with_reducible first | exact Below.refl _ _ | refine Below.drew ?_ | refine below_drewN ?_ _))).mono ?_; rintro e w5 ⟨rfl, γ5, h5⟩; obtain ⟨_, k1, _, _, _, _, _, _, _, _, _⟩ := h5.seq; obtain ⟨j1, _, _, j6, _, _, _, _⟩ := h5.reg; try dsimp only at j1 j6; have H5 := Lib.hid h5; clear h5))
        go_wp2_with (go_at_call 127; refine (q1_note64 H5.out (HE2.out _) ⟨4, t, 0, 0, 0, 0⟩).mono ?_; rintro e w6 ⟨rfl, γ6, h6⟩; have H6 := Lib.hid h6; clear h6)
        try rw [Exit.noGoto_ret]
        go_ret
        exact ⟨rfl, γ6, H6.out⟩
theorem q1_claimC64 (h : Q164 w0 γ0 S R P q s f w γ) (hf : s.b.Fit M64) (hlen : s.b.log.length ≤ 1000000) (hel : s.ev.length ≤ 999998) (hen : q.ends.length ≤ 1000000) (hni : InM M64 s.next) (t : Int) (hm : mayP q t f = true) (hpc : f.pc ≠ 1) (hft : fitsP M64 q.c.cap s.next f.n s.least = false) :
    Calls Tryd.prog 52 #[.pointer (some ⟨P.g, 0, none⟩), .int .i64 t, .pointer (some ⟨P.fb, P.o, none⟩)] w (Q1End64 w0 γ0 S R P q (scan1 M64 q t s { f with from_ := s.next, pc := 1, i := 0 })) := by
  have hfi : InM M64 ({ f with from_ := s.next, pc := 1, i := 0 } : FrS).from_ := hni
  have H := Lib.hid h
  obtain ⟨g0, g1, g4, g5, g8, g9, g10, g11, z10, z11, hg⟩ := h.seq
  obtain ⟨r1, r3, r4, r6, r7, r8, zr, hr⟩ := h.reg
  obtain ⟨hne1, hne2⟩ := h.ne
  have HM := Lib.hid hm
  have HF0 := Lib.hid (show fitsP M64 q.c.cap ({ f with from_ := s.next } : FrS).from_ ({ f with from_ := s.next } : FrS).n s.least = false by dsimp only; exact hft)
  unfold scan1
  have HUF := Lib.hid (scanP_from M64 s.b t q.ends ({ f with from_ := s.next, pc := 1, i := 0 } : FrS) ▸ hfi)
  have HS0 := Lib.hid (fun W (hW : Q164 w0 γ0 S R P q s ({ f with from_ := s.next, pc := 1, i := 0 } : FrS) W γ) => q1_scan64 hW hf hlen hen t)
  generalize scanP M64 s.b t q.ends ({ f with from_ := s.next, pc := 1, i := 0 } : FrS) = r at *
  obtain ⟨d, b2, f2⟩ := r
  dsimp only at *
  have hpb : (f.pc == 1) = false := by simp [hpc]
  have HE1 := Lib.hid (show s.ev.length ≤ 1000000 by omega)
  have HE2 := Lib.hid (fun a : Ev => show (s.ev ++ [a]).length ≤ 1000000 by rw [List.length_append, List.length_singleton]; omega)
  clear h hm hpc hel hen hf hlen hfi hni hft
  cases d
  · rw [if_pos rfl]
    go_enter Tryd.func52, Tryd.ntmps52
    go_wp2_with fail
    go_step3
    go_wp2_with (first
      | (go_at_call 125; refine (q1_may64 H.out t).mono ?_; rintro e w' ⟨rfl, m, rfl⟩; rw [HM.out])
      | (go_at_call 126; refine (q1_fits64 ((H.out.drewN _).setFrom s.next)).mono ?_; rintro e w' ⟨rfl, m2, rfl⟩; rw [HF0.out]))
    try go_step3
    go_wp2_with fail
    have hG := ((((H.out.drewN m).setFrom s.next).drewN m2).setPc 1).setI 0
    generalize (((((w.drewN m).setCell ⟨P.fb, P.o + 6, none⟩ (.int .u64 s.next)).drewN m2).setCell ⟨P.fb, P.o + 3, none⟩ (.int .i64 1)).setCell ⟨P.fb, P.o + 4, none⟩ (.int .i64 0)) = W1 at hG ⊢
    clear g0 g1 g4 g5 g8 g9 g10 g11 z10 z11 hg r1 r3 r4 r6 r7 r8 zr hr
    obtain ⟨g0, g1, g4, g5, g8, g9, g10, g11, z10, z11, hg⟩ := hG.seq
    obtain ⟨r1, r3, r4, r6, r7, r8, zr, hr⟩ := hG.reg
    try dsimp only at r1 r3 r4 r6 r7 r8
    have HSC := Lib.hid (fun W (hW : Below W1.heap.size W1 W) => HS0.out W (hG.bel hW))
    clear hG
    go_region_held3 (fun w' => w'.cell? ⟨P.g, 0, none⟩ = some (.pointer (some ⟨P.p, 0, none⟩)) ∧ w'.cell? ⟨P.g, 8, none⟩ = some (.slice q.ea q.ends.length q.ec)) (go_keep) (first
      | (go_at_call 40; refine (HSC.out _ (by repeat (with_reducible first | exact Below.refl _ _ | refine Below.drew ?_ | refine below_drewN ?_ _))).mono ?_; rintro e w3 ⟨rfl, γ3, h3⟩; obtain ⟨k0, k1, k4, k5, k8, k9, k10, k11, y10, y11, kg⟩ := h3.seq; obtain ⟨l1, l3, l4, l6, l7, l8, yr, lr⟩ := h3.reg; have H3 := Lib.hid h3; clear h3))
    go_wp2_with fail
    try rw [Exit.noGoto_ret]
    go_ret
    exact ⟨rfl, γ3, H3.out⟩
  · rw [if_neg (by decide)]
    cases hv : fitsP M64 q.c.cap f2.from_ f2.n f2.min
    · rw [if_pos rfl]
      have HF := Lib.hid hv
      clear hv
      go_enter Tryd.func52, Tryd.ntmps52
      go_wp2_with fail
      go_step3
      go_wp2_with (first
        | (go_at_call 125; refine (q1_may64 H.out t).mono ?_; rintro e w' ⟨rfl, m, rfl⟩; rw [HM.out])
        | (go_at_call 126; refine (q1_fits64 ((H.out.drewN _).setFrom s.next)).mono ?_; rintro e w' ⟨rfl, m2, rfl⟩; rw [HF0.out]))
      try go_step3
      go_wp2_with fail
      have hG := ((((H.out.drewN m).setFrom s.next).drewN m2).setPc 1).setI 0
      generalize (((((w.drewN m).setCell ⟨P.fb, P.o + 6, none⟩ (.int .u64 s.next)).drewN m2).setCell ⟨P.fb, P.o + 3, none⟩ (.int .i64 1)).setCell ⟨P.fb, P.o + 4, none⟩ (.int .i64 0)) = W1 at hG ⊢
      clear g0 g1 g4 g5 g8 g9 g10 g11 z10 z11 hg r1 r3 r4 r6 r7 r8 zr hr
      obtain ⟨g0, g1, g4, g5, g8, g9, g10, g11, z10, z11, hg⟩ := hG.seq
      obtain ⟨r1, r3, r4, r6, r7, r8, zr, hr⟩ := hG.reg
      try dsimp only at r1 r3 r4 r6 r7 r8
      have HSC := Lib.hid (fun W (hW : Below W1.heap.size W1 W) => HS0.out W (hG.bel hW))
      clear hG
      go_region_held3 (fun w' => w'.cell? ⟨P.g, 0, none⟩ = some (.pointer (some ⟨P.p, 0, none⟩)) ∧ w'.cell? ⟨P.g, 8, none⟩ = some (.slice q.ea q.ends.length q.ec)) (go_keep) (first
        | (go_at_call 40; refine (HSC.out _ (by repeat (with_reducible first | exact Below.refl _ _ | refine Below.drew ?_ | refine below_drewN ?_ _))).mono ?_; rintro e w3 ⟨rfl, γ3, h3⟩; obtain ⟨k0, k1, k4, k5, k8, k9, k10, k11, y10, y11, kg⟩ := h3.seq; obtain ⟨l1, l3, l4, l6, l7, l8, yr, lr⟩ := h3.reg; have H3 := Lib.hid h3; clear h3))
      go_wp2_with (go_at_call 126; refine (q1_fits64 (H3.out.setLeast f2.min)).mono ?_; rintro e w' ⟨rfl, m3, rfl⟩; rw [HF.out])
      try rw [Exit.noGoto_ret]
      go_ret
      exact ⟨rfl, γ3, (H3.out.setLeast f2.min).drewN m3⟩
    · rw [if_neg (by decide)]
      have HF := Lib.hid hv
      clear hv
      go_enter Tryd.func52, Tryd.ntmps52
      go_wp2_with fail
      go_step3
      go_wp2_with (first
        | (go_at_call 125; refine (q1_may64 H.out t).mono ?_; rintro e w' ⟨rfl, m, rfl⟩; rw [HM.out])
        | (go_at_call 126; refine (q1_fits64 ((H.out.drewN _).setFrom s.next)).mono ?_; rintro e w' ⟨rfl, m2, rfl⟩; rw [HF0.out]))
      try go_step3
      go_wp2_with fail
      have hG := ((((H.out.drewN m).setFrom s.next).drewN m2).setPc 1).setI 0
      generalize (((((w.drewN m).setCell ⟨P.fb, P.o + 6, none⟩ (.int .u64 s.next)).drewN m2).setCell ⟨P.fb, P.o + 3, none⟩ (.int .i64 1)).setCell ⟨P.fb, P.o + 4, none⟩ (.int .i64 0)) = W1 at hG ⊢
      clear g0 g1 g4 g5 g8 g9 g10 g11 z10 z11 hg r1 r3 r4 r6 r7 r8 zr hr
      obtain ⟨g0, g1, g4, g5, g8, g9, g10, g11, z10, z11, hg⟩ := hG.seq
      obtain ⟨r1, r3, r4, r6, r7, r8, zr, hr⟩ := hG.reg
      try dsimp only at r1 r3 r4 r6 r7 r8
      have HSC := Lib.hid (fun W (hW : Below W1.heap.size W1 W) => HS0.out W (hG.bel hW))
      clear hG
      go_region_held3 (fun w' => w'.cell? ⟨P.g, 0, none⟩ = some (.pointer (some ⟨P.p, 0, none⟩)) ∧ w'.cell? ⟨P.g, 8, none⟩ = some (.slice q.ea q.ends.length q.ec)) (go_keep) (first
        | (go_at_call 40; refine (HSC.out _ (by repeat (with_reducible first | exact Below.refl _ _ | refine Below.drew ?_ | refine below_drewN ?_ _))).mono ?_; rintro e w3 ⟨rfl, γ3, h3⟩; obtain ⟨k0, k1, k4, k5, k8, k9, k10, k11, y10, y11, kg⟩ := h3.seq; obtain ⟨l1, l3, l4, l6, l7, l8, yr, lr⟩ := h3.reg; have H3 := Lib.hid h3; clear h3))
      go_wp2_with (go_at_call 126; refine (q1_fits64 (H3.out.setLeast f2.min)).mono ?_; rintro e w' ⟨rfl, m3, rfl⟩; rw [HF.out])
      try go_step3
      go_wp2_with fail
      have hG := (H3.out.setLeast f2.min).drewN m3
      generalize ((w3.setCell ⟨P.g, 11, none⟩ (.int .u64 f2.min)).drewN m3) = WW at hG ⊢
      clear k0 k1 k4 k5 k8 k9 k10 k11 y10 y11 kg l1 l3 l4 l6 l7 l8 yr lr
      clear g0 g1 g4 g5 g8 g9 g10 g11 z10 z11 hg r1 r3 r4 r6 r7 r8 zr hr
      obtain ⟨g0, g1, g4, g5, g8, g9, g10, g11, z10, z11, hg⟩ := hG.seq
      obtain ⟨r1, r3, r4, r6, r7, r8, zr, hr⟩ := hG.reg
      try dsimp only at r1 r3 r4 r6 r7 r8
      have HG := Lib.hid hG
      clear hG
      go_region_with (first | (go_at_call 55; refine (add64 _ _ _).mono ?_; rintro e w' ⟨rfl, rfl⟩))
      all_goals
        go_wp2_with fail
        have hA := ((HG.out.setNext (addM M64 s.next f2.n)).setPc 0).drew
        generalize ((WW.setCell ⟨P.g, 10, none⟩ (.int .u64 (addM M64 s.next f2.n))).setCell ⟨P.fb, P.o + 3, none⟩ (.int .i64 0)).drew = W2 at hA ⊢
        clear g0 g1 g4 g5 g8 g9 g10 g11 z10 z11 hg r1 r3 r4 r6 r7 r8 zr hr
        obtain ⟨g0, g1, g4, g5, g8, g9, g10, g11, z10, z11, hg⟩ := hA.seq
        obtain ⟨r1, r3, r4, r6, r7, r8, zr, hr⟩ := hA.reg
        try dsimp only at r1 r3 r4 r6 r7 r8
        have HNT := Lib.hid (fun W (hW : Below W2.heap.size W2 W) => q1_note64 (hA.bel hW) HE1.out ⟨3, t, 0, f2.n, f2.from_, 0⟩)
        clear hA
        go_region_held3 (fun w' => w'.cell? ⟨P.g, 1, none⟩ = some (.pointer (some ⟨P.lg, 0, none⟩)) ∧ w'.cell? ⟨P.fb, P.o + 1, none⟩ = some (.int .i64 f2.n) ∧ w'.cell? ⟨P.fb, P.o + 6, none⟩ = some (.int .u64 f2.from_)) (go_keep) (first
          | (go_at_call 128; refine (up64 _ HUF.out _).mono ?_; rintro e w' ⟨rfl, rfl⟩)
          | (go_at_call 127; refine (HNT.out _ (by repeat (with_reducible first | exact Below.refl _ _ | refine Below.drew ?_ | refine below_drewN ?_ _))).mono ?_; rintro e w5 ⟨rfl, γ5, h5⟩; obtain ⟨_, k1, _, _, _, _, _, _, _, _, _⟩ := h5.seq; obtain ⟨j1, _, _, j6, _, _, _, _⟩ := h5.reg; try dsimp only at j1 j6; have H5 := Lib.hid h5; clear h5))
        go_wp2_with (go_at_call 127; refine (q1_note64 H5.out (HE2.out _) ⟨4, t, 0, 0, 0, 0⟩).mono ?_; rintro e w6 ⟨rfl, γ6, h6⟩; have H6 := Lib.hid h6; clear h6)
        try rw [Exit.noGoto_ret]
        go_ret
        exact ⟨rfl, γ6, H6.out⟩
theorem q1_claim64 (h : Q164 w0 γ0 S R P q s f w γ) (hf : s.b.Fit M64) (hlen : s.b.log.length ≤ 1000000) (hel : s.ev.length ≤ 999998) (hen : q.ends.length ≤ 1000000) (hfi : InM M64 f.from_) (hni : InM M64 s.next) (t : Int) :
    Calls Tryd.prog 52 #[.pointer (some ⟨P.g, 0, none⟩), .int .i64 t, .pointer (some ⟨P.fb, P.o, none⟩)] w (Q1End64 w0 γ0 S R P q (claim1 M64 q t s f)) := by
  unfold claim1
  cases hm : mayP q t f
  · rw [if_pos rfl]; exact q1_claimN64 h t hm
  · rw [if_neg (by decide)]
    by_cases hpc : f.pc = 1
    · rw [if_pos hpc]; exact q1_claimS64 h hf hlen hel hen hfi t hm hpc
    · rw [if_neg hpc]
      cases hft : fitsP M64 q.c.cap s.next f.n s.least
      · rw [if_neg (by decide)]; exact q1_claimC64 h hf hlen hel hen hni t hm hpc hft
      · rw [if_pos rfl]; exact q1_claimD64 h hel hni t hm hpc hft
end
section
set_option maxRecDepth 100000
variable {w0 w : World} {γ0 γ : Nat → Nat} {S : Nat → Prop} {R : List It} {P : QP} {q : SqC} {s : Sq1} {f : FrS}
theorem q1_publish64 (h : Q164 w0 γ0 S R P q s f w γ) (hf : s.b.Fit M64) (hlen : s.b.log.length ≤ 1000000) (hel : s.ev.length ≤ 999998) (hen : q.ends.length ≤ 1000000) (hfi : InM M64 f.from_) (t : Int) :
    Calls Tryd.prog 53 #[.pointer (some ⟨P.g, 0, none⟩), .int .i64 t, .pointer (some ⟨P.fb, P.o, none⟩)] w (Q1End64 w0 γ0 S R P q (publish1 M64 q t s f)) := by
  unfold publish1
  have H := Lib.hid h
  obtain ⟨g0, g1, g4, g5, g8, g9, g10, g11, z10, z11, hg⟩ := h.seq
  obtain ⟨r1, r3, r4, r6, r7, r8, zr, hr⟩ := h.reg
  obtain ⟨hne1, hne2⟩ := h.ne
  cases hm : mayP q t f
  · rw [if_pos rfl]
    have HM := Lib.hid hm
    clear h hm
    go_enter Tryd.func53, Tryd.ntmps53
    go_wp2_with (go_at_call 125; refine (q1_may64 H.out t).mono ?_; rintro e w' ⟨rfl, m, rfl⟩; rw [HM.out])
    go_ret
    exact ⟨rfl, γ, H.out.drewN m⟩
  · rw [if_neg (by decide)]
    have HM := Lib.hid hm
    have HST := Lib.hid (fun W (hW : Q164 w0 γ0 S R P q s f W γ) => q1_store64 hW hf hlen t q.cell (addM M64 f.from_ f.n) (addM_in64 _ _))
    have HE1 := Lib.hid (show s.ev.length ≤ 1000000 by omega)
    have HNI := Lib.hid hfi
    clear h hm hel hf hlen hen hfi
    go_enter Tryd.func53, Tryd.ntmps53
    go_wp2_with (go_at_call 125; refine (q1_may64 H.out t).mono ?_; rintro e w' ⟨rfl, m, rfl⟩; rw [HM.out])
    have hG := H.out.drewN m
    generalize w.drewN m = W1 at hG ⊢
    clear g0 g1 g4 g5 g8 g9 g10 g11 z10 z11 hg r1 r3 r4 r6 r7 r8 zr hr
    obtain ⟨g0, g1, g4, g5, g8, g9, g10, g11, z10, z11, hg⟩ := hG.seq
    obtain ⟨r1, r3, r4, r6, r7, r8, zr, hr⟩ := hG.reg
    try dsimp only at r1 r3 r4 r6 r7 r8
    have HSC := Lib.hid (fun W (hW : Below W1.heap.size W1 W) => HST.out W (hG.bel hW))
    clear hG
    go_region_held3 (fun w' => w'.cell? ⟨P.g, 0, none⟩ = some (.pointer (some ⟨P.p, 0, none⟩)) ∧ w'.cell? ⟨P.g, 9, none⟩ = some (.int .i64 q.cell) ∧ w'.cell? ⟨P.fb, P.o + 6, none⟩ = some (.int .u64 f.from_) ∧ w'.cell? ⟨P.fb, P.o + 1, none⟩ = some (.int .i64 f.n)) (go_keep) (first
      | (go_at_call 55; refine (add64 _ _ _).mono ?_; rintro e w' ⟨rfl, rfl⟩)
      | (go_at_call 56; refine (HSC.out _ (by repeat (with_reducible first | exact Below.refl _ _ | refine Below.drew ?_ | refine below_drewN ?_ _))).mono ?_; rintro e w3 ⟨rfl, γ3, h3⟩; obtain ⟨k0, k1, k4, k5, k8, k9, k10, k11, y10, y11, kg⟩ := h3.seq; obtain ⟨l1, l3, l4, l6, l7, l8, yr, lr⟩ := h3.reg; have H3 := Lib.hid h3; clear h3))
    go_wp2_with fail
    have HNT := Lib.hid (fun W (hW : Below w3.heap.size w3 W) => q1_note64 (H3.out.bel hW) HE1.out ⟨5, t, 0, f.n, f.from_, 0⟩)
    clear g0 g1 g4 g5 g8 g9 g10 g11 z10 z11 hg r1 r3 r4 r6 r7 r8 zr hr
    go_region_held3 (fun w' => w'.cell? ⟨P.g, 1, none⟩ = some (.pointer (some ⟨P.lg, 0, none⟩)) ∧ w'.cell? ⟨P.fb, P.o + 1, none⟩ = some (.int .i64 f.n) ∧ w'.cell? ⟨P.fb, P.o + 6, none⟩ = some (.int .u64 f.from_)) (go_keep) (first
      | (go_at_call 128; refine (up64 _ HNI.out _).mono ?_; rintro e w' ⟨rfl, rfl⟩)
      | (go_at_call 127; refine (HNT.out _ (by repeat (with_reducible first | exact Below.refl _ _ | refine Below.drew ?_ | refine below_drewN ?_ _))).mono ?_; rintro e w5 ⟨rfl, γ5, h5⟩; obtain ⟨_, k1, _, _, _, _, _, _, _, _, _⟩ := h5.seq; obtain ⟨j1, _, _, j6, _, _, _, _⟩ := h5.reg; have H5 := Lib.hid h5; clear h5))
    go_wp2_with fail
    go_ret
    exact ⟨rfl, γ5, H5.out⟩
end
section
set_option maxRecDepth 100000
variable {w0 w : World} {γ0 γ : Nat → Nat} {S : Nat → Prop} {R : List It} {P : QP} {q : SqC} {s : Sq1} {f : FrS}
theorem q1_tip64 (h : Q164 w0 γ0 S R P q s f w γ) (hf : s.b.Fit M64) (hlen : s.b.log.length ≤ 1000000) (t : Int) :
    Calls Tryd.prog 54 #[.pointer (some ⟨P.g, 0, none⟩), .int .i64 t, .pointer (some ⟨P.fb, P.o, none⟩)] w (Q1End64 w0 γ0 S R P q (tip1 q t s f)) := by
  have H := Lib.hid h
  obtain ⟨g0, g1, g4, g5, g8, g9, g10, g11, z10, z11, hg⟩ := h.seq
  obtain ⟨r1, r3, r4, r6, r7, r8, zr, hr⟩ := h.reg
  obtain ⟨hne1, hne2⟩ := h.ne
  have HSC := Lib.hid (fun W (hW : Below w.heap.size w W) => q1_load64 (h.bel hW) hf hlen t q.cell)
  clear h hf hlen
  unfold tip1
  generalize s.b.load t q.cell = r at *
  obtain ⟨v, b2⟩ := r
  dsimp only at *
  go_enter Tryd.func54, Tryd.ntmps54
  go_wp2_with fail
  go_region_held3 (fun w' => w'.cell? ⟨P.g, 0, none⟩ = some (.pointer (some ⟨P.p, 0, none⟩)) ∧ w'.cell? ⟨P.g, 9, none⟩ = some (.int .i64 q.cell)) (go_keep) (first
    | (go_at_call 108; refine (HSC.out _ (by repeat (with_reducible first | exact Below.refl _ _ | refine Below.drew ?_ | refine below_drewN ?_ _))).mono ?_; rintro e w3 ⟨rfl, γ3, h3⟩; obtain ⟨k0, k1, k4, k5, k8, k9, k10, k11, y10, y11, kg⟩ := h3.seq; obtain ⟨l1, l3, l4, l6, l7, l8, yr, lr⟩ := h3.reg; have H3 := Lib.hid h3; clear h3))
  go_wp2_with fail
  go_ret
  exact ⟨rfl, γ3, H3.out.setVal v⟩
end
end Go.Proofs.YtnkmlopjinihiaaDoor
