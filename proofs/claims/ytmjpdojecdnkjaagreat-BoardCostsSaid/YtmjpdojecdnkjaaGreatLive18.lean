/- sakialaw18's live: the document's example goes as it says. -/
import Derived.Test.YtmjpdojecdnkjaaGreatTurnP
namespace Go.Proofs.YtmjpdojecdnkjaaGreat
open Go.RowKit
set_option linter.unusedVariables false
set_option linter.unusedSimpArgs false
set_option maxHeartbeats 2000000

/-- registers of a thread, Pc and Own alone not zero -/
def frArr (kd : IntKind) (pc own : Int) : Array Value := #[.int .i64 0, .int .i64 0, .int .i64 0, .int .i64 pc, .int .i64 0, .int .i64 0, .int kd 0, .int kd 0, .int kd 0, .int kd own, .slice none 0 0]
theorem frArr_set (kd : IntKind) (pc own pc' own' : Int) : ((frArr kd pc own).setIfInBounds (0 + 9) (.int kd own')).setIfInBounds (0 + 3) (.int .i64 pc') = frArr kd pc' own' := rfl
/-- what a step of entering comes to, by the two counters: inside, ticket, Pc, Own -/
def tsEnter (M tk sv pc own : Int) : Bool × Int × Int × Int := if pc = 0 then (false, addM M tk 1, 1, tk) else if sv = own then (true, tk, 2, own) else (false, tk, pc, own)
theorem LockB.enter {M : Int} {b : BS} {tk sv : Int} (h : LockB M b tk sv) (hM : M = M32 ∨ M = M64) (t pc own : Int) :
    ∃ b', enterP M b t pc own = ((tsEnter M tk sv pc own).1, b', (tsEnter M tk sv pc own).2.2.1, (tsEnter M tk sv pc own).2.2.2) ∧ LockB M b' (tsEnter M tk sv pc own).2.1 sv ∧ b'.log.length = b.log.length + 1 := by
  unfold tsEnter
  by_cases hpc : pc = 0
  · subst hpc
    obtain ⟨b', h1, h2, h3⟩ := h.enter0 hM t own
    exact ⟨b', by rw [h1, if_pos rfl], by rw [if_pos rfl]; exact h2, h3⟩
  · obtain ⟨b', h1, h2, h3⟩ := h.enter1 t pc own hpc
    refine ⟨b', ?_, ?_, h3⟩
    · rw [h1, if_neg hpc]; split <;> rfl
    · rw [if_neg hpc]; split <;> exact h2
structure LiveS (tB tW tA tF : TypeId) (kd : IntKind) (M : Int) (w0 w : World) (γ : Nat → Nat) (p F G : Nat) (b : BS) (tk sv pf ow pg og : Int) (m : Nat) : Prop where
  old : Old w0 w γ
  brd : BoardAt tB tW tA kd w γ 1 p b
  lock : LockB M b tk sv
  len : b.log.length ≤ m
  f : Blk w F tF (frArr kd pf ow)
  fl : γ F = 2
  g : Blk w G tF (frArr kd pg og)
  gl : γ G = 3
def LiveEnd (tB tW tA tF : TypeId) (kd : IntKind) (M : Int) (w0 : World) (p F G : Nat) (v : Value) (tk sv pf ow pg og : Int) (m : Nat) (e : Ending) (w' : World) : Prop :=
  e = .returned v ∧ ∃ γ b, LiveS tB tW tA tF kd M w0 w' γ p F G b tk sv pf ow pg og m
theorem live_start {tB tW tA : TypeId} (tF : TypeId) (kd : IntKind) {M : Int} {w0 w : World} {γ : Nat → Nat} {p : Nat} {b : BS} (hO : Old w0 w γ) (hB : BoardAt tB tW tA kd w γ 1 p b) (hl : LockB M b 0 0) (hlog : b.log.length = 0) :
    ∃ γ', LiveS tB tW tA tF kd M w0 ((w.alloc (.cells (frArr kd 0 0) tF)).alloc (.cells (frArr kd 0 0) tF)) γ' p w.heap.size (w.heap.size + 1) b 0 0 0 0 0 0 0 := by
  have hfr : Fr NoId γ γ w ((w.alloc (.cells (frArr kd 0 0) tF)).alloc (.cells (frArr kd 0 0) tF)) := ((Fr.refl _ _ _).alloc _).alloc _
  have hr := hfr.relabel (fun k => if k = w.heap.size then 2 else 3)
  refine ⟨_, hO.fr hr (fun h => h), hB.fr hr (fun h => h), hl, by omega, (Blk.new w tF (frArr kd 0 0)).alloc _, ?_, ?_, ?_⟩
  · simp
  · have := Blk.new (w.alloc (.cells (frArr kd 0 0) tF)) tF (frArr kd 0 0)
    simpa using this
  · show (if w.heap.size + 1 < w.heap.size then _ else _) = 3
    rw [if_neg (by omega), if_neg (by omega)]
section
variable {w0 w : World} {γ : Nat → Nat} {p F G : Nat} {b : BS} (tk sv pf ow pg og : Int) (m : Nat)
theorem liveF32 (hm : m ≤ 1000000) (t : Int) (r : Bool × Int × Int × Int) (hr : tsEnter M32 tk sv pf ow = r) (h : LiveS 134 31 110 66 .u32 M32 w0 w γ p F G b tk sv pf ow pg og m) :
    Calls Tryz.prog 26 #[.pointer (some ⟨p, 0, none⟩), .int .i64 t, .pointer (some ⟨F, 0, none⟩)] w
      (LiveEnd 134 31 110 66 .u32 M32 w0 p F G (.bool r.1) r.2.1 sv r.2.2.1 r.2.2.2 pg og (m + 1)) := by
  subst hr
  obtain ⟨b', he, hl, hn⟩ := h.lock.enter (by first | exact .inl rfl | exact .inr rfl) t pf ow
  refine (tEnter32 w γ 1 2 p b h.brd h.lock.ok (by have := h.len; omega) t F 0 _ _ h.f h.fl (by decide) pf ow rfl rfl).mono ?_
  rw [he]
  rintro e w' ⟨rfl, γ', hB, hF, hfr⟩
  rw [frArr_set] at hF
  refine ⟨rfl, γ', b', h.old.fr hfr (by rintro (h | h) <;> cases h), hB, hl, by have := h.len; omega, hF, (hfr.lab _ h.f.lt).trans h.fl, hfr.block_ h.g ?_, (hfr.lab _ h.g.lt).trans h.gl⟩
  rw [h.gl]; rintro (h | h) <;> cases h
theorem liveG32 (hm : m ≤ 1000000) (t : Int) (r : Bool × Int × Int × Int) (hr : tsEnter M32 tk sv pg og = r) (h : LiveS 134 31 110 66 .u32 M32 w0 w γ p F G b tk sv pf ow pg og m) :
    Calls Tryz.prog 26 #[.pointer (some ⟨p, 0, none⟩), .int .i64 t, .pointer (some ⟨G, 0, none⟩)] w
      (LiveEnd 134 31 110 66 .u32 M32 w0 p F G (.bool r.1) r.2.1 sv pf ow r.2.2.1 r.2.2.2 (m + 1)) := by
  subst hr
  obtain ⟨b', he, hl, hn⟩ := h.lock.enter (by first | exact .inl rfl | exact .inr rfl) t pg og
  refine (tEnter32 w γ 1 3 p b h.brd h.lock.ok (by have := h.len; omega) t G 0 _ _ h.g h.gl (by decide) pg og rfl rfl).mono ?_
  rw [he]
  rintro e w' ⟨rfl, γ', hB, hF, hfr⟩
  rw [frArr_set] at hF
  refine ⟨rfl, γ', b', h.old.fr hfr (by rintro (h | h) <;> cases h), hB, hl, by have := h.len; omega, hfr.block_ h.f ?_, (hfr.lab _ h.f.lt).trans h.fl, hF, (hfr.lab _ h.g.lt).trans h.gl⟩
  rw [h.fl]; rintro (h | h) <;> cases h
theorem liveL32 (hm : m ≤ 1000000) (t : Int) (h : LiveS 134 31 110 66 .u32 M32 w0 w γ p F G b tk sv pf ow pg og m) :
    Calls Tryz.prog 28 #[.pointer (some ⟨p, 0, none⟩), .int .i64 t] w
      (LiveEnd 134 31 110 66 .u32 M32 w0 p F G (.tuple #[]) tk (addM M32 sv 1) pf ow pg og (m + 1)) := by
  have hl := h.lock.leave (by first | exact .inl rfl | exact .inr rfl) t
  refine (tLeave32 w γ 1 p b h.brd h.lock.ok (by have := h.len; omega) t).mono ?_
  rintro e w' ⟨rfl, γ', hB, hfr⟩
  refine ⟨rfl, γ', _, h.old.fr hfr (by rintro h; cases h), hB, hl.1, by have := h.len; omega, hfr.block_ h.f ?_, (hfr.lab _ h.f.lt).trans h.fl, hfr.block_ h.g ?_, (hfr.lab _ h.g.lt).trans h.gl⟩
  · rw [h.fl]; rintro h; cases h
  · rw [h.gl]; rintro h; cases h
theorem liveW32 (r : Int) (hr : difM M32 tk sv = r) (h : LiveS 134 31 110 66 .u32 M32 w0 w γ p F G b tk sv pf ow pg og m) :
    Calls Tryz.prog 27 #[.pointer (some ⟨p, 0, none⟩)] w
      (LiveEnd 134 31 110 66 .u32 M32 w0 p F G (.int .i64 r) tk sv pf ow pg og m) := by
  subst hr
  refine (tWaiting32 w γ 1 p b h.brd h.lock.ok (fun _ => ⟨h.lock.kt, h.lock.ks⟩)).mono ?_
  rw [h.lock.waiting]
  rintro e w' ⟨rfl, hb⟩
  have hfr : Fr NoId γ γ w w' := Fr.of_below hb _ _
  exact ⟨rfl, γ, b, h.old.fr hfr (fun h => h), h.brd.below hb, h.lock, h.len, hfr.block_ h.f (fun h => h), h.fl, hfr.block_ h.g (fun h => h), h.gl⟩
end
section
variable {w0 w : World} {γ : Nat → Nat} {p F G : Nat} {b : BS} (tk sv pf ow pg og : Int) (m : Nat)
theorem liveF64 (hm : m ≤ 1000000) (t : Int) (r : Bool × Int × Int × Int) (hr : tsEnter M64 tk sv pf ow = r) (h : LiveS 97 22 110 85 .u64 M64 w0 w γ p F G b tk sv pf ow pg og m) :
    Calls Tryz.prog 39 #[.pointer (some ⟨p, 0, none⟩), .int .i64 t, .pointer (some ⟨F, 0, none⟩)] w
      (LiveEnd 97 22 110 85 .u64 M64 w0 p F G (.bool r.1) r.2.1 sv r.2.2.1 r.2.2.2 pg og (m + 1)) := by
  subst hr
  obtain ⟨b', he, hl, hn⟩ := h.lock.enter (by first | exact .inl rfl | exact .inr rfl) t pf ow
  refine (tEnter64 w γ 1 2 p b h.brd h.lock.ok (by have := h.len; omega) t F 0 _ _ h.f h.fl (by decide) pf ow rfl rfl).mono ?_
  rw [he]
  rintro e w' ⟨rfl, γ', hB, hF, hfr⟩
  rw [frArr_set] at hF
  refine ⟨rfl, γ', b', h.old.fr hfr (by rintro (h | h) <;> cases h), hB, hl, by have := h.len; omega, hF, (hfr.lab _ h.f.lt).trans h.fl, hfr.block_ h.g ?_, (hfr.lab _ h.g.lt).trans h.gl⟩
  rw [h.gl]; rintro (h | h) <;> cases h
theorem liveG64 (hm : m ≤ 1000000) (t : Int) (r : Bool × Int × Int × Int) (hr : tsEnter M64 tk sv pg og = r) (h : LiveS 97 22 110 85 .u64 M64 w0 w γ p F G b tk sv pf ow pg og m) :
    Calls Tryz.prog 39 #[.pointer (some ⟨p, 0, none⟩), .int .i64 t, .pointer (some ⟨G, 0, none⟩)] w
      (LiveEnd 97 22 110 85 .u64 M64 w0 p F G (.bool r.1) r.2.1 sv pf ow r.2.2.1 r.2.2.2 (m + 1)) := by
  subst hr
  obtain ⟨b', he, hl, hn⟩ := h.lock.enter (by first | exact .inl rfl | exact .inr rfl) t pg og
  refine (tEnter64 w γ 1 3 p b h.brd h.lock.ok (by have := h.len; omega) t G 0 _ _ h.g h.gl (by decide) pg og rfl rfl).mono ?_
  rw [he]
  rintro e w' ⟨rfl, γ', hB, hF, hfr⟩
  rw [frArr_set] at hF
  refine ⟨rfl, γ', b', h.old.fr hfr (by rintro (h | h) <;> cases h), hB, hl, by have := h.len; omega, hfr.block_ h.f ?_, (hfr.lab _ h.f.lt).trans h.fl, hF, (hfr.lab _ h.g.lt).trans h.gl⟩
  rw [h.fl]; rintro (h | h) <;> cases h
theorem liveL64 (hm : m ≤ 1000000) (t : Int) (h : LiveS 97 22 110 85 .u64 M64 w0 w γ p F G b tk sv pf ow pg og m) :
    Calls Tryz.prog 38 #[.pointer (some ⟨p, 0, none⟩), .int .i64 t] w
      (LiveEnd 97 22 110 85 .u64 M64 w0 p F G (.tuple #[]) tk (addM M64 sv 1) pf ow pg og (m + 1)) := by
  have hl := h.lock.leave (by first | exact .inl rfl | exact .inr rfl) t
  refine (tLeave64 w γ 1 p b h.brd h.lock.ok (by have := h.len; omega) t).mono ?_
  rintro e w' ⟨rfl, γ', hB, hfr⟩
  refine ⟨rfl, γ', _, h.old.fr hfr (by rintro h; cases h), hB, hl.1, by have := h.len; omega, hfr.block_ h.f ?_, (hfr.lab _ h.f.lt).trans h.fl, hfr.block_ h.g ?_, (hfr.lab _ h.g.lt).trans h.gl⟩
  · rw [h.fl]; rintro h; cases h
  · rw [h.gl]; rintro h; cases h
theorem liveW64 (r : Int) (hr : difM M64 tk sv = r) (h : LiveS 97 22 110 85 .u64 M64 w0 w γ p F G b tk sv pf ow pg og m) :
    Calls Tryz.prog 40 #[.pointer (some ⟨p, 0, none⟩)] w
      (LiveEnd 97 22 110 85 .u64 M64 w0 p F G (.int .i64 r) tk sv pf ow pg og m) := by
  subst hr
  refine (tWaiting64 w γ 1 p b h.brd h.lock.ok (fun _ => ⟨h.lock.kt, h.lock.ks⟩)).mono ?_
  rw [h.lock.waiting]
  rintro e w' ⟨rfl, hb⟩
  have hfr : Fr NoId γ γ w w' := Fr.of_below hb _ _
  exact ⟨rfl, γ, b, h.old.fr hfr (fun h => h), h.brd.below hb, h.lock, h.len, hfr.block_ h.f (fun h => h), h.fl, hfr.block_ h.g (fun h => h), h.gl⟩
end
theorem live18 (w : World) : Calls Tryz.prog 8 #[] w fun e w' => e = .returned (.bool true) ∧ Below w.heap.size w w' := by
  have HL := Lib.hid (lockedC w)
  go_enter Tryz.func8, Tryz.ntmps8
  go_wp2_with (first
    | (go_at_call 25
       refine HL.out.mono ?_
       rintro e w1 ⟨p, ua, uc, rfl, hb1, hB1⟩
       obtain ⟨γ1, hB, hfr⟩ := hB1 (fun _ => 0) 1
       have hO := (Old.start w).fr hfr (fun h => h)
       have hlk : LockB M32 _ 0 0 := newBS_lock ⟨5, 32, 4, 1, 4294967294, ua, 1, uc⟩ rfl ⟨show 1 ≤ 1 by decide, show 1 ≤ 6 by decide⟩ (.inr (.inl rfl))
       obtain ⟨γ2, hS0⟩ := live_start (66) .u32 hO hB hlk rfl
       have HS := Lib.hid hS0
       clear hS0 hb1 hB1 hB hfr hO hlk)
    | (go_at_call 26; have hq := liveF32 0 0 0 0 0 0 0 (by omega) 0 (false, 1, 1, 0) (by simp [tsEnter, addM, M32]) HS.out; refine hq.mono ?_; rintro e w' ⟨rfl, γ', b', hS'⟩; have HS := Lib.hid hS'; clear hS' hq)
    | (go_at_call 26; have hq := liveG32 1 0 1 0 0 0 1 (by omega) 1 (false, 2, 1, 1) (by simp [tsEnter, addM, M32]) HS.out; refine hq.mono ?_; rintro e w' ⟨rfl, γ', b', hS'⟩; have HS := Lib.hid hS'; clear hS' hq)
    | (go_at_call 26; have hq := liveG32 2 0 1 0 1 1 2 (by omega) 1 (false, 2, 1, 1) (by simp [tsEnter, addM, M32]) HS.out; refine hq.mono ?_; rintro e w' ⟨rfl, γ', b', hS'⟩; have HS := Lib.hid hS'; clear hS' hq)
    | (go_at_call 26; have hq := liveF32 2 0 1 0 1 1 3 (by omega) 0 (true, 2, 2, 0) (by simp [tsEnter, addM, M32]) HS.out; refine hq.mono ?_; rintro e w' ⟨rfl, γ', b', hS'⟩; have HS := Lib.hid hS'; clear hS' hq)
    | (go_at_call 27; have hq := liveW32 2 0 2 0 1 1 4 2 (by simp [difM, sgM, M32]) HS.out; refine hq.mono ?_; rintro e w' ⟨rfl, γ', b', hS'⟩; have HS := Lib.hid hS'; clear hS' hq)
    | (go_at_call 28; have hq := liveL32 2 0 2 0 1 1 4 (by omega) 0 HS.out; refine hq.mono ?_; rintro e w' ⟨rfl, γ', b', hS'⟩; have HS := Lib.hid (show LiveS 134 31 110 66 .u32 M32 _ _ _ _ _ _ _ 2 1 2 0 1 1 5 from hS'); clear hS' hq)
    | (go_at_call 26; have hq := liveG32 2 1 2 0 1 1 5 (by omega) 1 (true, 2, 2, 1) (by simp [tsEnter, addM, M32]) HS.out; refine hq.mono ?_; rintro e w' ⟨rfl, γ', b', hS'⟩; have HS := Lib.hid hS'; clear hS' hq)
    | (go_at_call 27; have hq := liveW32 2 1 2 0 2 1 6 1 (by simp [difM, sgM, M32]) HS.out; refine hq.mono ?_; rintro e w' ⟨rfl, γ', b', hS'⟩; have HS := Lib.hid hS'; clear hS' hq))
  go_ret
  exact ⟨rfl, HS.out.old.bel⟩
end Go.Proofs.YtmjpdojecdnkjaaGreat
