/- Contracts of event.NewLog, copied, Log.Note, Log.Len. -/
import Derived.Test.YtnkmlopjinihiaaDoorEvP
import Derived.Test.YtnkmlopjinihiaaDoorBoard3
namespace Go.Proofs.YtnkmlopjinihiaaDoor
open Go.RowKit
set_option linter.unusedVariables false
set_option linter.unusedSimpArgs false
set_option maxHeartbeats 2000000

theorem ev_info : (Tryd.prog.info? 162).map (fun i => (i.zero, i.size, i.bytes)) = some (some (.agg #[.int .i64 0, .int .i64 0, .int .i64 0, .int .i64 0, .int .u64 0, .int .i64 0, .slice none 0 0]), 7, 72) := by kernel_rfl
theorem evint_info : (Tryd.prog.info? 3).map (fun i => (i.zero, i.size, i.bytes)) = some (some (.int .i64 0), 1, 8) := by kernel_rfl
theorem one_ev (a : EvR) : ∀ u ∈ a.vs, u.oneCell' = true := by intro u hu; simp only [EvR.vs, List.mem_cons, List.not_mem_nil, or_false] at hu; rcases hu with rfl | rfl | rfl | rfl | rfl | rfl | rfl <;> rfl
theorem news_ev (w : World) (a : EvR) : ∀ j u, a.vs[j]? = some u → (w.alloc (.cells #[.int .i64 a.e.kind, .int .i64 a.e.thread, .int .i64 a.e.op, .int .i64 a.e.n, .int .u64 a.e.pos, .int .i64 a.e.code, .slice a.da 0 a.dc] 162)).cell? ((⟨w.heap.size, 0, none⟩ : Addr).add j) = some u :=
  World.news_of_block (heap_alloc_new w (.cells #[.int .i64 a.e.kind, .int .i64 a.e.thread, .int .i64 a.e.op, .int .i64 a.e.n, .int .u64 a.e.pos, .int .i64 a.e.code, .slice a.da 0 a.dc] 162))
theorem evNew (w : World) : Calls Tryd.prog 50 #[] w fun e w' => ∃ g, e = .returned (.pointer (some ⟨g, 0, none⟩)) ∧ Below w.heap.size w w' ∧ ∀ γ id, LogAt 155 162 w' (Lab w γ id) id g [] := by
  go_enter Tryd.func50, Tryd.ntmps50
  go_wp2_with fail
  go_ret
  refine ⟨w.heap.size, rfl, (Below.refl _ _).alloc (Nat.le_refl _) _, fun γ id => ⟨_, [], rfl, Blk.new _ _ _, ?_, ?_⟩⟩
  · unfold Lab; rw [if_neg (by omega)]
  · exact ⟨World.ownsRow_nil _ _ _ _, fun g hg => by simp [Value.ownBlock] at hg⟩
theorem evCopied (k t o n p c : Int) (A : Option Addr) (xs : List Int) (dc : Nat) (w : World) (hr : Reads w w.heap.size 1 A xs.length (xs.map (Value.int .i64))) (hl : xs.length ≤ 1000000) :
    Calls Tryd.prog 180 #[.agg #[.int .i64 k, .int .i64 t, .int .i64 o, .int .i64 n, .int .u64 p, .int .i64 c, .slice A xs.length dc]] w fun e w' =>
      ∃ A' c', e = .returned (.agg #[.int .i64 k, .int .i64 t, .int .i64 o, .int .i64 n, .int .u64 p, .int .i64 c, .slice A' xs.length c']) ∧ w'.ownsRow w.heap.size 3 1 (.slice A' xs.length c') xs.length (xs.map (Value.int .i64)) ∧ Below w.heap.size w w' := by
  obtain ⟨i0, hi, hz0, hz1, hz2⟩ := info_parts evint_info
  have HI := Lib.hid (And.intro hi (And.intro hz0 (And.intro hz1 hz2)))
  have HRD := Lib.hid hr
  have HLN := Lib.hid hl
  clear hi hz0 hz1 hz2 hr hl
  have hmade := World.ownsRow_made (e := 3) (size := 1) (base := w.heap.size) ((w.alloc (.cells #[.int .i64 k, .int .i64 t, .int .i64 o, .int .i64 n, .int .u64 p, .int .i64 c, .slice A xs.length dc] 162)).alloc (.cells #[.int .i64 0, .int .i64 0, .int .i64 0, .int .i64 0, .int .u64 0, .int .i64 0, .slice none 0 0] 162)) #[] 0 (by simp; omega) (by simp [maxLen]) rfl
  rw [World.size_alloc, World.size_alloc] at hmade
  have HM := Lib.hid hmade
  have hbe := ((Below.refl w.heap.size w).alloc (Nat.le_refl _) (.cells #[.int .i64 k, .int .i64 t, .int .i64 o, .int .i64 n, .int .u64 p, .int .i64 c, .slice A xs.length dc] 162)).alloc (by simp) (.cells #[.int .i64 0, .int .i64 0, .int .i64 0, .int .i64 0, .int .u64 0, .int .i64 0, .slice none 0 0] 162)
  have HBE := Lib.hid hbe
  have hn0 : some w.heap.size ≠ (Value.slice (some ⟨w.heap.size + 1 + 1, 0, none⟩) 0 0).ownBlock := fun e => by have h : w.heap.size = w.heap.size + 1 + 1 := Option.some.inj e; omega
  have hn1 : some (w.heap.size + 1) ≠ (Value.slice (some ⟨w.heap.size + 1 + 1, 0, none⟩) 0 0).ownBlock := fun e => by have h : w.heap.size + 1 = w.heap.size + 1 + 1 := Option.some.inj e; omega
  have HN := Lib.hid (And.intro hn0 hn1)
  clear hmade hbe hn0 hn1
  go_enter Tryd.func180, Tryd.ntmps180
  go_wp2_with (at_builtin
               refine wpList_append_any _ rfl (.tmp 3) (.tmp 5) 58 (by rfl) w.heap.size 3 i0 _ 1 8 Tryd.underlying58 HI.out.1 HI.out.2.1 HI.out.2.2.1 HI.out.2.2.2 rfl (by omega) _ 0 [] (by rfl) HM.out w.heap.size A xs.length dc _ (by rfl) (((HRD.out.alloc (Nat.le_refl _) _).alloc (by simp) _).alloc (by simp; omega) _) (by intro u hu; obtain ⟨x, _, rfl⟩ := List.mem_map.1 hu; rfl) (by have := HLN.out; unfold maxLen; omega) (by have := HLN.out; omega) (by simp; omega) ?_
               intro v w2 hown hgr hat
               simp only [Nat.zero_add, List.nil_append] at hown
               obtain ⟨A1, c1, rfl, hc1⟩ := own_form hown
               have B0 := (((Blk.new w 162 #[.int .i64 k, .int .i64 t, .int .i64 o, .int .i64 n, .int .u64 p, .int .i64 c, .slice A xs.length dc]).alloc _).alloc _).grown hgr HN.out.1
               have B1 := ((Blk.snd w _ 162 #[.int .i64 0, .int .i64 0, .int .i64 0, .int .i64 0, .int .u64 0, .int .i64 0, .slice none 0 0]).alloc _).grown hgr HN.out.2
               obtain ⟨q0, q1, q2, q3, q4, q5, q6⟩ := blk_cells7 B0
               obtain ⟨p0, p1, p2, p3, p4, p5, p6⟩ := blk_cells7 B1
               have f0 := fun i => Blk.frozen B0 i
               have f1 := fun i => Blk.frozen B1 i
               have hl0 := B0.lt
               have hl1 := B1.lt
               have HO := Lib.hid (And.intro hown hgr)
               have HBB := Lib.hid (And.intro B0 B1)
               clear hown hgr hat B0 B1)
  refine bodyPost_ret (v := .agg #[.int .i64 k, .int .i64 t, .int .i64 o, .int .i64 n, .int .u64 p, .int .i64 c, .slice A1 xs.length c1]) ?_ rfl ⟨A1, c1, rfl, ?_, ?_⟩
  · simp only [results, Tryd.results180]
    go_simp
  · have hne : 3 ≠ 162 := by decide
    refine ownsRow_keep HO.out.1 (fun g hg => ?_)
    have h0 : g ≠ w.heap.size := fun e => own_blk_ne HO.out.1 HBB.out.1 hne (by rw [hg, e])
    have h1 : g ≠ w.heap.size + 1 := fun e => own_blk_ne HO.out.1 HBB.out.2 hne (by rw [hg, e])
    refine (show Keeps (fun b => b ≠ w.heap.size ∧ b ≠ w.heap.size + 1) w2 _ from ?_) g ⟨h0, h1⟩
    repeat (with_reducible first | exact Keeps.refl _ _ | refine Keeps.drew ?_ | refine Keeps.setCell ?_ ?_ _)
    all_goals (rintro ⟨h1, h2⟩; first | exact h1 rfl | exact h2 rfl)
  · have hw2 : Below w.heap.size w w2 := Below.grown (HBE.out.alloc (by simp; omega) _) HO.out.2 (by simp; omega) (fun g hg => by have h : w.heap.size + 1 + 1 = g := Option.some.inj hg; omega)
    repeat (with_reducible first | exact hw2 | refine Below.drew ?_ | refine Below.setCell ?_ ?_ _ | refine Below.alloc ?_ ?_ _)
    all_goals (simp; try omega)
theorem evNote (w : World) (γ : Nat → Nat) (id g : Nat) (l : List Ev) (h : LogAt 155 162 w γ id g l) (hlen : l.length ≤ 1000000) (a : Ev) :
    Calls Tryd.prog 127 #[.pointer (some ⟨g, 0, none⟩), .agg #[.int .i64 a.kind, .int .i64 a.thread, .int .i64 a.op, .int .i64 a.n, .int .u64 a.pos, .int .i64 a.code, .slice none 0 0]] w
      (OneEnd (itL 155 162 id g (l ++ [a])) w γ (.tuple #[])) := by
  obtain ⟨lv, rs, rfl, hB, hlab, hrow⟩ := h
  obtain ⟨i0, hinf⟩ := info_parts ev_info
  have HI := Lib.hid hinf
  clear hinf
  obtain ⟨A1, c1, rfl, hc1⟩ := own_form hrow.1
  have hfr := hB.frozen 0
  have HK := Lib.hid (show rs.length + 1 ≤ maxLen ∧ (rs.length + 1) * 72 ≤ 140737488355328 from ⟨by unfold maxLen; simp at hlen; omega, by simp at hlen; omega⟩)
  clear hlen
  have hq : w.cell? ⟨g, 0, none⟩ = some (.slice A1 rs.length c1) := hB.cell 0
  have hpl := hB.lt
  have HB := Lib.hid hB
  have HR := Lib.hid (And.intro hlab hrow)
  have HCP := Lib.hid (fun W => evCopied a.kind a.thread a.op a.n a.pos a.code none [] 0 W Reads.none_ (by simp))
  clear hB hlab hrow
  go_enter Tryd.func127, Tryd.ntmps127
  go_wp2_with fail
  go_region_law (first
    | (go_simp; go_at_call 180; refine (HCP.out _).mono ?_; rintro e w1 ⟨A', c', rfl, hown1, hb1⟩; have hb2 : Below w.heap.size w w1 := ((Below.refl w.heap.size w).alloc (Nat.le_refl _) (.cells #[.int .i64 a.kind, .int .i64 a.thread, .int .i64 a.op, .int .i64 a.n, .int .u64 a.pos, .int .i64 a.code, .slice none 0 0] 162)).trans (Below.mono ⟨hb1.os, hb1.tape, hb1.output, hb1.size, hb1.block⟩ (by simp)); have hq1 := (hb2.cell (p := ⟨g, 0, none⟩) hpl).trans hq; have hf1 := (hb2.frozen (p := ⟨g, 0, none⟩) hpl).trans hfr; have hpl1 : g < w1.heap.size := Nat.lt_of_lt_of_le hpl hb2.size; have HB2 := Lib.hid hb2; clear hb1 hb2 hown1)
    | (refine step_append_lies _ rfl (.tmp 10) (.tmp 13) 153 rfl 0 162 i0 _ 7 72 Tryd.underlying153 HI.out.1 HI.out.2.1 HI.out.2.2.1 HI.out.2.2.2 rfl (by decide) (.slice A1 rs.length c1) rs.length _ rfl ((ownsRow_keep (w := w) HR.out.2.1 fun k hk => HB2.out.block k (HR.out.2.1.lt k hk).2).alloc _) ⟨w1.heap.size, 0, none⟩ 1 1 (EvR.vs ⟨a, A', c'⟩) rfl rfl (news_ev _ ⟨a, A', c'⟩) (one_ev _) (by decide) HK.out.1 HK.out.2 (Nat.zero_le _) _ rfl ?_
       intro g3 cc w2 hown hgrow hat hlt2
       have hnt := (HB.out.below HB2.out HB.out.lt).noted (by decide) ((ownsRow_keep (w := w) HR.out.2.1 fun k hk => HB2.out.block k (HR.out.2.1.lt k hk).2).alloc _) hgrow 0
       have hpl2 : g < w2.heap.size := Nat.lt_of_lt_of_le hpl1 (Nat.le_trans (by simp) hgrow.size)
       have HOWN := Lib.hid hown
       have HGR := Lib.hid hgrow
       have HAT := Lib.hid hat
       clear hown hgrow hat hlt2))
  all_goals go_wp2_with fail
  all_goals (first | go_end0 | refine bodyPost_ret (results_none rfl _ _ _) rfl ?_)
  all_goals exact ⟨rfl, LogAt.noted (a := ⟨a, A', c'⟩) (by decide) HB.out HR.out.1 HR.out.2 (HB2.out.alloc HB2.out.size _) HGR.out HOWN.out (fun g' hg' => by have e2 := Option.some.inj hg'; subst e2; exact HAT.out)⟩
theorem evLen (w : World) (γ : Nat → Nat) (id g : Nat) (l : List Ev) (h : LogAt 155 162 w γ id g l) :
    Calls Tryd.prog 63 #[.pointer (some ⟨g, 0, none⟩)] w fun e w' => e = .returned (.int .i64 l.length) ∧ w = w' := by
  obtain ⟨lv, rs, rfl, hb, _, hr⟩ := h
  obtain ⟨A, c, rfl, _⟩ := own_form hr.1
  have hq : w.cell? ⟨g, 0, none⟩ = some (.slice A rs.length c) := hb.cell 0
  clear hb hr
  go_enter Tryd.func63, Tryd.ntmps63
  go_wp2_with fail
  go_ret
  exact ⟨by simp, rfl⟩
end Go.Proofs.YtnkmlopjinihiaaDoor
