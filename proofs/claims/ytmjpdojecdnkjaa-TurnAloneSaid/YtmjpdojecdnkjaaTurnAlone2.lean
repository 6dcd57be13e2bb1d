/- sakialaw18.TurnAlone returns true for every list, and changes nothing. -/
import Derived.Test.YtmjpdojecdnkjaaTurnAlone
import Derived.Deep.WholeRow
namespace Go.Proofs.Ytmjpdojecdnkjaa
open Go.RowKit
set_option linter.unusedVariables false
set_option linter.unusedSimpArgs false
set_option maxHeartbeats 4000000

theorem wpList_store_made {P : Program} {ops : Array Oper} {rest : List Oper} {o : Oper} {a : Act} {w : World} {Q : Exit → Act → World → Prop} (hgd : o.guard = none) (ty : TypeId) (x y : Operand) (ho : o.op = .store ty x y)
    (w1 : World) (old cells cells' : Array Value) (hx : a.eval x = .pointer (some ⟨w1.heap.size, 0, none⟩)) (hy : a.eval y = .agg cells) (hw : w = w1.alloc (.cells old ty)) (hc : cells = cells') (hi : (P.info? ty).map (·.size) = some cells.size)
    (hold : old.size = cells.size) (h1 : cells.all (·.oneCell') = true)
    (h : wpList P ops Q rest (a.put o.dst undef) (w1.alloc (.cells cells' ty))) : wpList P ops Q (o :: rest) a w := by
  subst hw hc
  refine wpList_store_row hgd ty x y ho w1.heap.size cells hx hy ty old (heap_alloc_last _ _) hi hold h1 ?_
  rw [World.setRow_alloc_new]
  exact h
theorem aw_start {w1 : World} {w0 : World} {γ1 : Nat → Nat} {p : Nat} {b : BS} (hO : Old w0 w1 γ1) (hB : BoardAt 111 24 87 .u32 w1 γ1 1 p b) (hl : LockB M32 b 0 0) (hlog : b.log.length = 0) (tF tG : TypeId) :
    ∃ γ, AW tF tG w0 ((w1.alloc (.cells (frsCs .u32 [] (List.replicate 8 {}) []) tF)).alloc (.cells ((List.replicate 8 false).map Value.bool).toArray tG)) γ p w1.heap.size (w1.heap.size + 1) b (List.replicate 8 {}) (List.replicate 8 false) 0 0 0 := by
  have hfr : Fr NoId γ1 γ1 w1 ((w1.alloc (.cells (frsCs .u32 [] (List.replicate 8 {}) []) tF)).alloc (.cells ((List.replicate 8 false).map Value.bool).toArray tG)) := ((Fr.refl _ _ _).alloc _).alloc _
  have hr := hfr.relabel (fun k => if k = w1.heap.size then 2 else 3)
  refine ⟨_, hO.fr hr (fun h => h), hB.fr hr (fun h => h), hl, by omega, (Blk.new w1 tF _).alloc _, ?_, ?_, ?_⟩
  · simp
  · have := Blk.new (w1.alloc (.cells (frsCs .u32 [] (List.replicate 8 {}) []) tF)) tG ((List.replicate 8 false).map Value.bool).toArray
    simpa using this
  · show (if w1.heap.size + 1 < w1.heap.size then _ else _) = 3
    rw [if_neg (by omega), if_neg (by omega)]
set_option maxRecDepth 100000 in
theorem turnAlone_any (A : Option Addr) (xs : List Int) (cap : Nat) (w : World) (hA : KAt .u8 w (fun b => b < w.heap.size) A xs) (hx : ∀ x ∈ xs, 0 ≤ x ∧ x < 256) :
    Calls Try.prog 4 #[.slice A xs.length cap] w fun e w' => e = .returned (.bool true) ∧ Below w.heap.size w w' := by
  have HV := Lib.hid live18
  by_cases hlen : 300 < xs.length
  · go_enter Try.func4, Try.ntmps4
    go_wp2_with (go_at_call 18; refine (HV.out _).mono ?_; rintro e w1 ⟨rfl, hb1⟩)
    go_ret
    exact ⟨rfl, hb1⟩
  · have HL := Lib.hid (lockedC w)
    go_enter Try.func4, Try.ntmps4
    have hi40 : (Try.prog.info? 40).map (·.size) = some 88 := by kernel_rfl
    go_wp2_with (first
      | (refine wpList_store_made (by rfl) 40 (.tmp 4) (.tmp 15) (by rfl) _ _ _ (frsCs .u32 [] (List.replicate 8 {}) []) (by rfl) (by rfl) (by rfl) (by rfl) (by exact hi40) (by rfl) (by kernel_rfl) ?_)
      | (go_at_call 19
         refine HL.out.mono ?_
         rintro e w1 ⟨p, ua, uc, rfl, hb1, hB1⟩
         obtain ⟨γ1, hB, hfr⟩ := hB1 (fun _ => 0) 1
         have hO := (Old.start w).fr hfr (fun h => h)
         have hlk : LockB M32 _ 0 0 := newBS_lock ⟨5, 32, 4, 1, 4294967294, ua, 1, uc⟩ rfl ⟨show 1 ≤ 1 by decide, show 1 ≤ 6 by decide⟩ (.inr (.inl rfl))
         have hstart := aw_start hO hB hlk rfl 40 41
         obtain ⟨γ2, hS0⟩ := hstart
         have HS := Lib.hid hS0
         clear hS0 hb1 hB1 hB hfr hO hlk))
    go_loopw [6, 7, 8] (fun inside last i wr => ∃ (k : Nat) (fs : List FrS) (ins : List Bool) (tk sv zi zl : Int) (γ : Nat → Nat) (b : BS), i = .int .i64 k ∧ inside = .int .i64 zi ∧ last = .int .i64 zl ∧ k ≤ xs.length ∧ AInv k fs ins tk sv zi zl ∧ AW 40 41 w wr γ p w1.heap.size (w1.heap.size + 1) b fs ins tk sv k) (fun _ _ i _ => xs.length - (intOf i).toNat)
    case atStart =>
      exact ⟨0, _, _, 0, 0, 0, -1, γ2, _, rfl, rfl, rfl, by omega, AInv.start, HS.out⟩
    case round =>
      obtain ⟨k, fs, ins, tk, sv, zi, zl, γ, b, rfl, rfl, rfl, hk, hinv, haw⟩ := hrel
      by_cases hlt : k < xs.length
      · have hkx : (k : Int) < xs.length := by omega
        have hgx := List.getElem?_eq_getElem hlt
        have hxb := hx _ (List.getElem_mem hlt)
        generalize xs[k] = x at hgx hxb
        obtain ⟨ab, ao, rfl, hab, hac⟩ := hA k x hgx
        obtain ⟨t, ht8, htx⟩ : ∃ t : Nat, t < 8 ∧ x % 8 = t := ⟨(x % 8).toNat, by omega, by omega⟩
        have hac2 := (haw.old.bel.cell (p := ⟨ab, ao + k, none⟩) hab).trans hac
        obtain ⟨f, hf⟩ := get_some hinv.nf ht8
        obtain ⟨v, hv⟩ := get_some hinv.ni ht8
        have hgc : wr.cell? ⟨w1.heap.size + 1, t, none⟩ = some (.bool v) := (haw.g.cell t).trans (by simp [hv])
        have hgz := haw.g.frozen t
        have HAW := Lib.hid haw
        have hinv2 := hinv
        have hti : (t : Int) < 8 := by omega
        clear haw hinv hac hab
        have hio := hinv2.io
        have hord := hinv2.ord
        have hk3 : k ≤ 300 := by omega
        cases v
        · have HE := Lib.hid (aw_enter HAW.out (by omega) t f hf (t * 11) (by omega))
          have hz1 : zi ≤ 1 := by omega
          have HORD := Lib.hid hord
          clear hord hio
          by_cases hpc : f.pc = 0
          · rw [show tsEnter M32 tk sv f.pc f.own = (false, tk + 1, 1, tk) by unfold tsEnter; rw [if_pos hpc]; unfold addM M32; congr 2; have := HORD.out; omega] at HE
            have hinv3 := hinv2.enter0 hv hf
            rw [show ({ f with pc := 1, own := tk } : FrS) = tsFr M32 tk sv f by unfold tsFr tsEnter; rw [if_pos hpc]] at hinv3
            have HINV3 := Lib.hid hinv3
            clear hinv2 hinv3 hpc
            go_wp2_with (go_at_call 21; refine HE.out.mono ?_; rintro e w3 ⟨rfl, γ', b', haw'⟩; have HAW3 := Lib.hid haw'; clear haw')
            go_round
            case rel => exact ⟨k + 1, _, _, _, _, _, _, _, _, by go_num, rfl, rfl, by omega, HINV3.out, HAW3.out⟩
            case measure => simp only [intOf]; omega
          · by_cases hso : sv = f.own
            · obtain ⟨rfl, hzl⟩ := hinv2.alone hv hf hpc hso.symm
              rw [show tsEnter M32 tk sv f.pc f.own = (true, tk, 2, f.own) by unfold tsEnter; rw [if_neg hpc, if_pos hso]] at HE
              have hfr : (tsFr M32 tk sv f).own = f.own := by unfold tsFr tsEnter; rw [if_neg hpc, if_pos hso]
              have hfp : (tsFr M32 tk sv f).pc ≠ 0 := by unfold tsFr tsEnter; rw [if_neg hpc, if_pos hso]; show (2 : Int) ≠ 0; decide
              have hinv3 := hinv2.come hv hf hpc hso.symm hfp hfr
              have HINV3 := Lib.hid hinv3
              have HFR := Lib.hid (And.intro hfr hf)
              have hob : 0 ≤ f.own ∧ f.own ≤ 300 := by have := HORD.out; omega
              have hob0 := hob.1
              have hob1 := hob.2
              have hle : decide (f.own ≤ zl) = false := decide_eq_false (by omega)
              have hwr : wrap64 f.own = f.own := wrap64_id (by omega)
              have HSO := Lib.hid hso
              clear hinv2 hinv3 hpc hso hfr hfp hob hzl
              go_wp2_with (go_at_call 21; refine HE.out.mono ?_; rintro e w3 ⟨rfl, γ', b', haw'⟩
                           have ho3 : w3.cell? ⟨w1.heap.size, t * 11 + 9, none⟩ = some (.int .u32 f.own) := (haw'.fcell (List.getElem?_set_self (List.getElem?_eq_some_iff.1 HFR.out.2).1) 9 (by omega)).trans (congrArg (fun x => some (Value.int .u32 x)) HFR.out.1)
                           have hg3 : w3.cell? ⟨w1.heap.size + 1, t, none⟩ = some (.bool false) := (haw'.g.cell t).trans (by simp [hv])
                           have hz3 := haw'.g.frozen t
                           have HAW3 := Lib.hid (haw'.setIn t true); clear haw')
              go_round
              case rel => exact ⟨k + 1, _, _, _, _, _, _, _, _, by go_num, rfl, by rw [HSO.out], by omega, HINV3.out, HAW3.out⟩
              case measure => simp only [intOf]; omega
            · rw [show tsEnter M32 tk sv f.pc f.own = (false, tk, f.pc, f.own) by unfold tsEnter; rw [if_neg hpc, if_neg hso]] at HE
              have hinv3 := hinv2.stay (f' := tsFr M32 tk sv f) hv hf hpc (by unfold tsFr tsEnter; rw [if_neg hpc, if_neg hso])
              have HINV3 := Lib.hid hinv3
              clear hinv2 hinv3 hpc hso
              go_wp2_with (go_at_call 21; refine HE.out.mono ?_; rintro e w3 ⟨rfl, γ', b', haw'⟩; have HAW3 := Lib.hid haw'; clear haw')
              go_round
              case rel => exact ⟨k + 1, _, _, _, _, _, _, _, _, by go_num, rfl, rfl, by omega, HINV3.out, HAW3.out⟩
              case measure => simp only [intOf]; omega
        · have HE := Lib.hid (aw_leave HAW.out (by omega) t)
          have hinv3 := hinv2.leave hv
          rw [show addM M32 sv 1 = sv + 1 by unfold addM M32; omega] at HE
          have HINV3 := Lib.hid hinv3
          have hwz : wrap64 (zi - 1) = zi - 1 := wrap64_id (by omega)
          clear hinv2 hinv3
          go_wp2_with (go_at_call 20; refine HE.out.mono ?_; rintro e w3 ⟨rfl, γ', b', haw'⟩
                       have hg3 : w3.cell? ⟨w1.heap.size + 1, t, none⟩ = some (.bool true) := (haw'.g.cell t).trans (by simp [hv])
                       have hz3 := haw'.g.frozen t
                       have hy3 := haw'.f.frozen
                       have c0 := haw'.fcell hf
                       have d0 : w3.cell? ⟨w1.heap.size, t * 11, none⟩ = some (.int .i64 f.op) := c0 0 (by omega)
                       have d1 : w3.cell? ⟨w1.heap.size, t * 11 + 1, none⟩ = some (.int .i64 f.n) := c0 1 (by omega)
                       have d2 : w3.cell? ⟨w1.heap.size, t * 11 + 2, none⟩ = some (.int .i64 f.phase) := c0 2 (by omega)
                       have d3 : w3.cell? ⟨w1.heap.size, t * 11 + 3, none⟩ = some (.int .i64 f.pc) := c0 3 (by omega)
                       have d4 : w3.cell? ⟨w1.heap.size, t * 11 + 4, none⟩ = some (.int .i64 f.i) := c0 4 (by omega)
                       have d5 : w3.cell? ⟨w1.heap.size, t * 11 + 5, none⟩ = some (.int .i64 f.j) := c0 5 (by omega)
                       have d6 : w3.cell? ⟨w1.heap.size, t * 11 + 6, none⟩ = some (.int .u32 f.from_) := c0 6 (by omega)
                       have d7 : w3.cell? ⟨w1.heap.size, t * 11 + 7, none⟩ = some (.int .u32 f.min) := c0 7 (by omega)
                       have d8 : w3.cell? ⟨w1.heap.size, t * 11 + 8, none⟩ = some (.int .u32 f.val) := c0 8 (by omega)
                       have d9 : w3.cell? ⟨w1.heap.size, t * 11 + 9, none⟩ = some (.int .u32 f.own) := c0 9 (by omega)
                       have d10 : w3.cell? ⟨w1.heap.size, t * 11 + 10, none⟩ = some (.slice f.da f.dn f.dc) := c0 10 (by omega)
                       have HAW3 := Lib.hid haw'; clear haw' c0)
          go_round
          case rel => exact ⟨k + 1, _, _, _, _, _, _, _, _, by go_num, rfl, rfl, by omega, HINV3.out, (HAW3.out.setIn t false).zeroF hf⟩
          case measure => simp only [intOf]; omega
      · go_wp2_with (go_at_call 18; refine (HV.out _).mono ?_; rintro e w3 ⟨rfl, hb3⟩)
        go_ret
        exact ⟨rfl, haw.old.bel.trans (hb3.mono haw.old.bel.size)⟩
end Go.Proofs.Ytmjpdojecdnkjaa
