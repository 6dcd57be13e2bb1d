/- Plain: a thread that is alone, on a sequencer whose slots bear stamps. No program, no memory. -/
import Derived.Test.YtnkmlopjinihiaaDoorAloneN
namespace Go.Proofs.YtnkmlopjinihiaaDoor
open Go.RowKit
set_option linter.unusedVariables false
set_option linter.unusedSimpArgs false

section
variable {M : Int} {q : SqC} {n : Nat} {s : SqN} {f : FrS}
theorem StN.look4 (h : StN M q n s) (t : Int) (f : FrS) : StN M q (n + 1) (look4 M q t s f).1 := by
  unfold Go.Proofs.YtnkmlopjinihiaaDoor.look4
  split
  · exact h.brd (h.fit.load t _) (BS.load_l _ _ _) (BS.load_log _ _ _)
  · split
    · exact h.brd (h.fit.load t _) (BS.load_l _ _ _) (BS.load_log _ _ _)
    · exact h.brd (h.fit.load t _) (BS.load_l _ _ _) (BS.load_log _ _ _)
theorem StN.claim4 (h : StN M q n s) (t : Int) (f : FrS) : StN M q (n + 1) (claim4 M q t s f).2.1 := by
  unfold Go.Proofs.YtnkmlopjinihiaaDoor.claim4
  split
  · exact h.mono (by omega)
  · split
    · exact h.look4 t f
    · split
      · unfold scan4; split <;> exact h.scan t f
      · split
        · exact h.brd (h.fit.swap t _ _ (addM_in h.fit.M2 _ _)) (swap_l _ _ _ _ _) (swap_log _ _ _ _ _)
        · split
          · unfold swap4
            have h1 := h.brd (h.fit.swap t (mkLay q.c).claim f.from_ (addM_in h.fit.M2 f.from_ f.n)) (swap_l _ _ _ _ _) (swap_log _ _ _ _ _)
            split
            · exact h1
            · have h2 := h1.evs (l := [takeEv t f] ++ [grantEv t]) h.ev (by simp)
              unfold tookQ
              rw [List.append_assoc]
              exact h2
          · exact h.brd (h.fit.load t _) (BS.load_l _ _ _) (BS.load_log _ _ _)
theorem StN.publish4 (h : StN M q n s) (t : Int) (f : FrS) : StN M q (n + 1) (publish4 M q t s f).2.1 := by
  unfold Go.Proofs.YtnkmlopjinihiaaDoor.publish4
  have h1 := h.brd (h.fit.store t (stampC q (addM M f.from_ f.i)) (addM_in h.fit.M2 (addM M f.from_ f.i) 1)) (store_l _ _ _ _) (store_log _ _ _ _)
  split
  · exact h.mono (by omega)
  · split
    · exact h1.evs (l := [putEv t 1 (addM M f.from_ f.i)]) h.ev (by simp)
    · exact h1.evs (l := [putEv t 1 (addM M f.from_ f.i)]) h.ev (by simp)
theorem StN.tip4 (h : StN M q n s) (t : Int) (f : FrS) : StN M q (n + 1) (tip4 M q t s f).2.1 := by
  unfold Go.Proofs.YtnkmlopjinihiaaDoor.tip4
  split
  · exact h.brd (h.fit.load t _) (BS.load_l _ _ _) (BS.load_log _ _ _)
  · exact h.brd (h.fit.load t _) (BS.load_l _ _ _) (BS.load_log _ _ _)
end
/-! stamps -/
theorem stamp_next {M p c : Int} (hM : M = M32 ∨ M = M64) (hc : Cap2 c) (hp : InM M p) : addM M p 1 ≠ p ∧ addM M p (1 - c) ≠ p ∧ addM M p (1 - c) ≠ addM M p 1 := by
  unfold InM at hp
  rcases hM with rfl | rfl <;> rcases hc with rfl | rfl | rfl | rfl | rfl | rfl <;> simp only [addM, M32, M64] at hp ⊢ <;> omega
/-- of the positions from x on, one round of them: those below a are stamped as published, those below z as free, each other as free or as used a round ahead -/
structure SG (M : Int) (q : SqC) (N : Nat) (x g y : Int) (a z : Nat) (b : BS) : Prop where
  fit : b.Fit M
  conf : b.l.c = q.c
  lay : b.l = mkLay q.c
  kinds : ∀ e ∈ q.ends, b.l.kind e = 1
  lo : ∀ e ∈ q.ends, 0 ≤ e ∧ e < (N : Int)
  gates : ∀ e ∈ q.ends, b.at_ e = g
  cl : (mkLay q.c).claim = N
  kc : b.l.kind N = 1
  at_ : b.at_ N = y
  mks : (mkLay q.c).marks = N + 1
  kst : ∀ i : Nat, (i : Int) < q.c.cap → b.l.kind ((N : Int) + 1 + i) = 1
  st : ∀ i : Nat, (i : Int) < q.c.cap → (i < a → b.at_ (stampC q (addM M x i)) = addM M (addM M x i) 1) ∧ (a ≤ i → i < z → b.at_ (stampC q (addM M x i)) = addM M x i) ∧ (a ≤ i → b.at_ (stampC q (addM M x i)) = addM M x i ∨ b.at_ (stampC q (addM M x i)) = addM M (addM M x i) (1 - q.c.cap))
section
variable {M : Int} {q : SqC} {N : Nat} {x g y : Int} {a z : Nat} {b b' : BS}
theorem SG.cap (h : SG M q N x g y a z b) : Cap2 q.c.cap := by rw [← h.conf]; exact h.fit.cap
theorem SG.cell (h : SG M q N x g y a z b) (pos : Int) : stampC q pos = (N : Int) + 1 + slotI q.c.cap pos ∧ 0 ≤ slotI q.c.cap pos ∧ slotI q.c.cap pos < q.c.cap ∧ b.l.kind (stampC q pos) = 1 := by
  have hs := slotI_bd (x := pos) h.cap
  have hce : 0 < (mkLay q.c).cells := by have := h.fit.ok.pos; rw [h.lay] at this; exact this
  have e : stampC q pos = (N : Int) + 1 + slotI q.c.cap pos := by
    unfold stampC Lay.mark Lay.slotAt
    rw [h.mks, mkLay_c, if_pos (by omega)]
  refine ⟨e, hs.1, hs.2, ?_⟩
  rw [e]
  have hk := h.kst (slotI q.c.cap pos).toNat (by omega)
  rwa [Int.toNat_of_nonneg hs.1] at hk
theorem SG.same (h : SG M q N x g y a z b) (hs : SameB b b') (hf : b'.Fit M) : SG M q N x g y a z b' :=
  ⟨hf, by rw [hs.1]; exact h.conf, by rw [hs.1]; exact h.lay, fun e he => by rw [hs.1]; exact h.kinds e he, h.lo, fun e he => by rw [hs.2]; exact h.gates e he, h.cl, by rw [hs.1]; exact h.kc, by rw [hs.2]; exact h.at_, h.mks, fun i hi => by rw [hs.1]; exact h.kst i hi, fun i hi => by rw [hs.2]; exact h.st i hi⟩
theorem SG.claim {v : Int} (h : SG M q N x g y a z b) (hs : SetB b b' N v) (hf : b'.Fit M) : SG M q N x g v a z b' := by
  refine ⟨hf, by rw [hs.1]; exact h.conf, by rw [hs.1]; exact h.lay, fun e he => by rw [hs.1]; exact h.kinds e he, h.lo, fun e he => ?_, h.cl, by rw [hs.1]; exact h.kc, ?_, h.mks, fun i hi => by rw [hs.1]; exact h.kst i hi, fun i hi => ?_⟩
  · have hl := h.lo e he
    rw [hs.2 e hl.1, if_neg (by omega)]; exact h.gates e he
  · rw [hs.2 _ (by omega), if_pos rfl]
  · have hc := h.cell (addM M x i)
    rw [hs.2 _ (by omega), if_neg (by omega)]; exact h.st i hi
/-- a slot is stamped -/
theorem SG.stamp {v : Int} {k : Nat} (h : SG M q N x g y a z b) (hk : (k : Int) < q.c.cap) (hs : SetB b b' (stampC q (addM M x k)) v) (hf : b'.Fit M) {a' z' : Nat}
    (hv : (k < a' → v = addM M (addM M x k) 1) ∧ (a' ≤ k → k < z' → v = addM M x k) ∧ (a' ≤ k → v = addM M x k ∨ v = addM M (addM M x k) (1 - q.c.cap)))
    (ho : ∀ i : Nat, i ≠ k → (i < a' → i < a) ∧ (a' ≤ i → a ≤ i) ∧ (a' ≤ i → i < z' → i < z)) : SG M q N x g y a' z' b' := by
  have hM := h.fit.M2
  have hck := h.cell (addM M x k)
  refine ⟨hf, by rw [hs.1]; exact h.conf, by rw [hs.1]; exact h.lay, fun e he => by rw [hs.1]; exact h.kinds e he, h.lo, fun e he => ?_, h.cl, by rw [hs.1]; exact h.kc, ?_, h.mks, fun i hi => by rw [hs.1]; exact h.kst i hi, fun i hi => ?_⟩
  · have hl := h.lo e he
    rw [hs.2 e hl.1, if_neg (by omega)]; exact h.gates e he
  · rw [hs.2 _ (by omega), if_neg (by omega)]; exact h.at_
  · have hc := h.cell (addM M x i)
    by_cases hik : i = k
    · subst hik
      rw [hs.2 _ (by omega), if_pos rfl]; exact hv
    · have hne := slot_add (p := x) hM h.cap (i := (i : Int)) (j := (k : Int)) ⟨by omega, hi⟩ ⟨by omega, hk⟩ (by omega)
      rw [hs.2 _ (by omega), if_neg (by omega)]
      obtain ⟨o1, o2, o3⟩ := ho i hik
      obtain ⟨s1, s2, s3⟩ := h.st i hi
      exact ⟨fun hh => s1 (o1 hh), fun hh hz => s2 (o2 hh) (o3 hh hz), fun hh => s3 (o2 hh)⟩
/-- the round goes on: what was published is used -/
theorem SG.shift (h : SG M q N x g y a z b) (hx : InM M x) (ha : (a : Int) ≤ q.c.cap) : SG M q N (addM M x a) g y 0 0 b := by
  have hM := h.fit.M2
  have hb := h.cap.bd
  refine ⟨h.fit, h.conf, h.lay, h.kinds, h.lo, h.gates, h.cl, h.kc, h.at_, h.mks, h.kst, fun i hi => ⟨fun hh => by omega, fun _ hh => by omega, fun _ => ?_⟩⟩
  rw [addM_addM hM]
  by_cases hlt : (a : Int) + i < q.c.cap
  · have h1 := (h.st (a + i) (by omega)).2.2 (by omega)
    rw [Int.natCast_add] at h1
    exact h1
  · obtain ⟨k, hk⟩ : ∃ k : Nat, (a : Int) + i = k + q.c.cap := ⟨((a : Int) + i - q.c.cap).toNat, by omega⟩
    have h1 := (h.st k (by omega)).1 (by omega)
    right
    have hs : stampC q (addM M x (a + i)) = stampC q (addM M x k) := by
      unfold stampC
      rw [hk, ← addM_addM hM]
      have h2 := slot_wrap (p := addM M x k) hM h.cap
      rw [addM_zero (addM_in hM _ _)] at h2
      rw [h2]
    rw [hs, h1, hk, addM_addM hM, addM_addM hM]
    congr 1
    omega
end
/-- gates follow -/
structure SP (M : Int) (q : SqC) (N : Nat) (y : Int) (j : Nat) (b : BS) : Prop where
  all : ∀ k : Nat, k < N → (k : Int) ∈ q.ends
  ex : ∃ g : Int → Int, (∀ e ∈ q.ends, b.at_ e = g e) ∧ ∀ e ∈ q.ends, e < j → g e = y
  sg : ∀ b' : BS, b'.l = b.l → b'.Fit M → (∀ k : Int, (N : Int) ≤ k → b'.at_ k = b.at_ k) → (∀ e ∈ q.ends, b'.at_ e = y) → SG M q N y y y 0 0 b'
  fit : b.Fit M
  kinds : ∀ e ∈ q.ends, b.l.kind e = 1
  lo : ∀ e ∈ q.ends, 0 ≤ e ∧ e < (N : Int)
section
variable {M : Int} {q : SqC} {N : Nat} {g y : Int} {j : Nat} {b : BS}
theorem SP.start (h : SG M q N y g y 0 0 b) (ha : ∀ k : Nat, k < N → (k : Int) ∈ q.ends) : SP M q N y 0 b := by
  refine ⟨ha, ⟨fun e => b.at_ e, fun _ _ => rfl, fun e he hlt => by have := h.lo e he; omega⟩, fun b' hl hf hk hg => ?_, h.fit, h.kinds, h.lo⟩
  have hcell : ∀ i : Nat, (i : Int) < q.c.cap → b'.at_ (stampC q (addM M y i)) = b.at_ (stampC q (addM M y i)) := fun i hi => hk _ (by have := h.cell (addM M y i); omega)
  exact ⟨hf, by rw [hl]; exact h.conf, by rw [hl]; exact h.lay, fun e he => by rw [hl]; exact h.kinds e he, h.lo, hg, h.cl, by rw [hl]; exact h.kc, by rw [hk _ (Int.le_refl _)]; exact h.at_, h.mks, fun i hi => by rw [hl]; exact h.kst i hi, fun i hi => by rw [hcell i hi]; exact h.st i hi⟩
theorem SP.step (h : SP M q N y j b) (hj : j < N) (hy : InM M y) (t : Int) : SP M q N y (j + 1) (b.store t j y) := by
  have hkj := h.kinds j (h.all j hj)
  have hs := store_set h.fit.ok hkj t y
  obtain ⟨g, hg1, hg2⟩ := h.ex
  refine ⟨h.all, ⟨fun e => if e = j then y else g e, fun e he => ?_, fun e he hlt => ?_⟩, fun b' hl hf hk hg => h.sg b' (by rw [hl]; exact hs.1) hf (fun k hkN => by rw [hk k hkN, hs.2 k (by omega), if_neg (by omega)]) hg, h.fit.store t j hy, fun e he => by rw [hs.1]; exact h.kinds e he, h.lo⟩
  · have hl := h.lo e he
    rw [hs.2 e hl.1, hg1 e he]
  · show (if e = j then y else g e) = y
    split
    · rfl
    · exact hg2 e he (by omega)
theorem SP.done (h : SP M q N y j b) (hj : N ≤ j) : SG M q N y y y 0 0 b := by
  obtain ⟨g, hg1, hg2⟩ := h.ex
  exact h.sg b rfl h.fit (fun _ _ => rfl) (fun e he => by rw [hg1 e he]; exact hg2 e he (by have := h.lo e he; omega))
end
section
variable {M : Int} {q : SqC} {N : Nat} {x n : Int} {s : SqN} {f : FrS}
def Rest4 (M : Int) (q : SqC) (N : Nat) (x : Int) (s : SqN) : Prop := SG M q N x x x 0 0 s.b
def Tk4 (M : Int) (q : SqC) (N : Nat) (x n : Int) (s : SqN) : Prop := InM M x ∧ 1 ≤ n ∧ n ≤ q.c.cap ∧ SG M q N x x (addM M x n) 0 n.toNat s.b ∧ 2 ≤ s.ev.length
def Pd4 (M : Int) (q : SqC) (N : Nat) (x n : Int) (s : SqN) : Prop := InM M x ∧ 1 ≤ n ∧ n ≤ q.c.cap ∧ SG M q N x x (addM M x n) n.toNat n.toNat s.b ∧ 3 ≤ s.ev.length
def GP4 (M : Int) (q : SqC) (N : Nat) (y : Int) (j : Nat) (s : SqN) : Prop := SP M q N y j s.b ∧ InM M y ∧ 3 ≤ s.ev.length
/-- a claim that goes on -/
structure CP4 (M : Int) (q : SqC) (N : Nat) (x n : Int) (j : Nat) (s : SqN) (f : FrS) : Prop where
  xm : InM M x
  n1 : 1 ≤ n
  n2 : n ≤ q.c.cap
  fn : f.n = n
  val : f.val = 0
  ii : 0 ≤ f.i ∧ f.i ≤ 6
  at_ : (j = 0 ∧ f.pc = 0 ∧ f.from_ = 0 ∧ f.j = 0 ∧ SG M q N x x x 0 0 s.b)
    ∨ (f.from_ = x ∧ ∃ k ex : Nat, f.j = k ∧ (k : Int) ≤ n ∧ SG M q N x x x 0 k s.b ∧ (ex = 0 ∨ (ex = q.ends.length ∧ s.lst 0 = x)) ∧
      ((f.pc = 1 ∧ (k : Int) < n ∧ (j ≤ 1 + 3 * k + ex ∨ (j ≤ 3 + 3 * k + ex ∧ s.b.at_ (stampC q (addM M x k)) = addM M x k)))
       ∨ (f.pc = 2 ∧ (k : Int) < n ∧ s.b.at_ (stampC q (addM M x k)) = addM M (addM M x k) (1 - q.c.cap) ∧ ex = 0 ∧ ∃ i : Nat, f.i = i ∧ i < q.ends.length ∧ (1 ≤ i → f.min = x) ∧ j ≤ 2 + 3 * k + i)
       ∨ (f.pc = 3 ∧ (k : Int) < n ∧ s.b.at_ (stampC q (addM M x k)) = addM M (addM M x k) (1 - q.c.cap) ∧ j ≤ 2 + 3 * k + ex)
       ∨ (f.pc = 4 ∧ (k : Int) = n ∧ j ≤ 1 + 3 * k + ex)))
theorem SG.grow {g y : Int} {k : Nat} {b : BS} (h : SG M q N x g y 0 k b) (hv : b.at_ (stampC q (addM M x k)) = addM M x k) : SG M q N x g y 0 (k + 1) b :=
  ⟨h.fit, h.conf, h.lay, h.kinds, h.lo, h.gates, h.cl, h.kc, h.at_, h.mks, h.kst, fun i hi => by
    obtain ⟨h1, h2, h3⟩ := h.st i hi
    refine ⟨h1, fun h0 hz => ?_, h3⟩
    by_cases hik : i = k
    · subst hik; exact hv
    · exact h2 h0 (by omega)⟩
theorem pass_ok {M x c : Int} {k : Int} (hM : M = M32 ∨ M = M64) (hc : Cap2 c) (hx : InM M x) (hk : 0 ≤ k ∧ k < c) : 0 < difM M x (addM M (addM M x k) (-c)) := by
  have hb := hc.bd
  rw [addM_addM hM]
  unfold difM
  have e : (x - addM M x (k + -c)) % M = c - k := by
    unfold InM at hx
    rcases hM with rfl | rfl <;> unfold addM <;> simp only [M32, M64] at hx ⊢ <;> omega
  rw [e]
  unfold sgM
  rcases hM with rfl | rfl <;> rw [if_pos (by simp only [M32, M64]; omega)] <;> omega
theorem cp4_step (hnp : 1 ≤ q.c.producers) (he1 : 1 ≤ q.ends.length) (he6 : q.ends.length ≤ 6) (hlen : (s.least.length : Int) = q.c.producers) {j : Nat} (h : CP4 M q N x n j s f) :
    ((claim4 M q 0 s f).1 = true ∧ Tk4 M q N x n (claim4 M q 0 s f).2.1 ∧ (claim4 M q 0 s f).2.2.from_ = x) ∨ ((claim4 M q 0 s f).1 = false ∧ CP4 M q N x n (j + 1) (claim4 M q 0 s f).2.1 (claim4 M q 0 s f).2.2) := by
  obtain ⟨xm, n1, n2, fn, val, ii, at_⟩ := h
  have hmay : mayP q 0 f = true := decide_eq_true ⟨Int.le_refl 0, by omega, by omega, by omega⟩
  unfold claim4
  rw [if_neg (by rw [hmay]; decide)]
  rcases at_ with ⟨rfl, hpc, hfr, hj, sg⟩ | ⟨hfr, k, ex, hj, hkn, sg, hex, ph⟩
  · rw [if_neg (by omega), if_neg (by omega), if_neg (by omega), if_neg (by omega)]
    unfold begin4
    rw [sg.cl]
    have hv : (s.b.load 0 (N : Int)).1 = x := by rw [load_is sg.kc]; exact sg.at_
    rw [hv]
    exact .inr ⟨rfl, xm, n1, n2, fn, val, ii, .inr ⟨rfl, 0, 0, rfl, by omega, sg.same (load_same _ _ _) (sg.fit.load _ _), .inl rfl, .inl ⟨rfl, by omega, .inl (by omega)⟩⟩⟩
  · have hM := sg.fit.M2
    have hpos : pos4 M f = addM M x k := by unfold pos4; rw [hfr, hj]
    have hcell := sg.cell (addM M x k)
    have hst := sg.st k
    have hpi : InM M (addM M x k) := addM_in hM _ _
    have hnx := stamp_next hM sg.cap hpi
    rcases ph with ⟨hpc, hlt, hjl⟩ | ⟨hpc, hlt, hat, rfl, i, hi, hil, hmn, hjl⟩ | ⟨hpc, hlt, hat, hjl⟩ | ⟨hpc, hke, hjl⟩
    · rw [if_pos hpc]
      refine .inr ⟨rfl, ?_⟩
      have hl1 : (s.b.load 0 (stampC q (addM M x k))).1 = s.b.at_ (stampC q (addM M x k)) := load_is hcell.2.2.2 0
      have hsm := load_same s.b 0 (stampC q (addM M x k))
      have sg' := sg.same hsm (sg.fit.load _ _)
      unfold look4 used4
      rw [hpos, hl1]
      rcases (hst (by omega)).2.2 (by omega) with hv | hv
      · rw [hv, if_pos rfl]
        have sg2 := sg'.grow (by rw [hsm.2]; exact hv)
        by_cases hjn : f.j + 1 = f.n
        · rw [if_pos hjn]
          exact ⟨xm, n1, n2, fn, val, ii, .inr ⟨hfr, k + 1, ex, by show f.j + 1 = _; omega, by omega, sg2, hex, .inr (.inr (.inr ⟨rfl, by omega, by omega⟩))⟩⟩
        · rw [if_neg hjn]
          exact ⟨xm, n1, n2, fn, val, ii, .inr ⟨hfr, k + 1, ex, by show f.j + 1 = _; omega, by omega, sg2, hex, .inl ⟨rfl, by omega, .inl (by omega)⟩⟩⟩
      · have hjl1 : j ≤ 1 + 3 * k + ex := by
          rcases hjl with h1 | ⟨_, h2⟩
          · exact h1
          · exact absurd (h2.symm.trans hv) (fun e => hnx.2.1 e.symm)
        rw [hv, if_neg hnx.2.1, if_pos rfl]
        by_cases hp : passed4 M q s 0 f = true
        · have hfp : free4 M q s 0 f 2 = 3 := by unfold free4; rw [if_pos hp]
          rw [hfp]
          exact ⟨xm, n1, n2, fn, val, ⟨Int.le_refl 0, by show (0 : Int) ≤ 6; decide⟩, .inr ⟨hfr, k, ex, hj, hkn, sg', hex, .inr (.inr (.inl ⟨rfl, hlt, by rw [hsm.2]; exact hv, by omega⟩))⟩⟩
        · have hfp : free4 M q s 0 f 2 = 2 := by unfold free4; rw [if_neg hp]
          rw [hfp]
          have hex0 : ex = 0 := by
            rcases hex with h1 | ⟨_, h2⟩
            · exact h1
            · refine absurd ?_ hp
              unfold passed4
              rw [h2, hpos]
              exact decide_eq_true (pass_ok hM sg.cap xm ⟨by omega, by omega⟩)
          subst hex0
          exact ⟨xm, n1, n2, fn, val, ⟨Int.le_refl 0, by show (0 : Int) ≤ 6; decide⟩, .inr ⟨hfr, k, 0, hj, hkn, sg', .inl rfl, .inr (.inl ⟨rfl, hlt, by rw [hsm.2]; exact hv, rfl, 0, rfl, by omega, fun hh => by omega, by omega⟩)⟩⟩
    · rw [if_neg (by omega), if_pos hpc]
      obtain ⟨b', hs, hf', hsc⟩ := scanP_all (f := f) hM sg.kinds sg.gates 0 i hi hil hmn
      have sg' := sg.same hs (hf' sg.fit)
      unfold scan4 SqN.scan
      rw [hsc]
      by_cases hl : i + 1 < q.ends.length
      · rw [if_pos hl]
        exact .inr ⟨rfl, xm, n1, n2, fn, val, ⟨by show 0 ≤ f.i + 1; omega, by show f.i + 1 ≤ 6; omega⟩, .inr ⟨hfr, k, 0, hj, hkn, sg', .inl rfl, .inr (.inl ⟨hpc, hlt, (hs.2 _).trans hat, rfl, i + 1, by show f.i + 1 = _; omega, hl, fun _ => rfl, by omega⟩)⟩⟩
      · rw [if_neg hl]
        have hls : SqN.lst { b := b', ev := s.ev, least := s.least.set (0 : Int).toNat x } 0 = x := lst_set (by omega) _ _
        have hps : passed4 M q { b := b', ev := s.ev, least := s.least.set (0 : Int).toNat x } 0 { f with min := x, i := 0 } = true := by
          unfold passed4
          rw [hls, show pos4 M { f with min := x, i := 0 } = addM M x k from hpos]
          exact decide_eq_true (pass_ok hM sg.cap xm ⟨by omega, by omega⟩)
        refine .inr ⟨rfl, xm, n1, n2, fn, val, ⟨Int.le_refl 0, by show (0 : Int) ≤ 6; decide⟩, .inr ⟨hfr, k, q.ends.length, hj, hkn, sg', .inr ⟨rfl, hls⟩, .inr (.inr (.inl ⟨?_, hlt, (hs.2 _).trans hat, by omega⟩))⟩⟩
        show free4 M q { b := b', ev := s.ev, least := s.least.set (0 : Int).toNat x } 0 { f with min := x, i := 0 } 0 = 3
        unfold free4
        rw [if_pos hps]
    · rw [if_neg (by omega), if_neg (by omega), if_pos hpc]
      have hsw := swap_set sg.fit.ok hcell.2.2.2 (hat.trans (by rfl : _ = addM M (addM M x k) (1 - q.c.cap))) 0 (addM M x k)
      unfold freed4 used4
      rw [hpos]
      have hf' := sg.fit.swap 0 (stampC q (addM M x k)) (addM M (addM M x k) (1 - q.c.cap)) hpi
      have sg' := sg.stamp (k := k) (by omega) hsw.2 hf' (a' := 0) (z' := k) ⟨fun hh => by omega, fun _ _ => rfl, fun _ => .inl rfl⟩ (fun i _ => ⟨fun hh => by omega, fun hh => hh, fun _ hh => hh⟩)
      exact .inr ⟨rfl, xm, n1, n2, fn, val, ii, .inr ⟨hfr, k, ex, hj, hkn, sg', hex, .inl ⟨rfl, hlt, .inr ⟨by omega, by show (s.b.swap 0 _ _ _).2.at_ _ = _; rw [hsw.2.2 _ (by omega), if_pos rfl]⟩⟩⟩⟩
    · rw [if_neg (by omega), if_neg (by omega), if_neg (by omega), if_pos hpc]
      have hsw := swap_set sg.fit.ok sg.kc (sg.at_.trans hfr.symm) 0 (addM M f.from_ f.n)
      unfold swap4
      rw [sg.cl, if_neg (by rw [hsw.1]; decide)]
      refine .inl ⟨rfl, ⟨xm, n1, n2, ?_, by unfold tookQ; simp⟩, hfr⟩
      have h1 := sg.claim hsw.2 (sg.fit.swap 0 (N : Int) f.from_ (addM_in hM _ _))
      have hkn2 : n.toNat = k := by omega
      rw [hfr, fn] at h1
      unfold tookQ
      rw [hfr, fn, hkn2]
      exact h1
structure PP4 (M : Int) (q : SqC) (N : Nat) (x n : Int) (j : Nat) (s : SqN) (f : FrS) : Prop where
  xm : InM M x
  n1 : 1 ≤ n
  n2 : n ≤ q.c.cap
  fr : f = { n := n, from_ := x, i := j }
  lt : (j : Int) < n
  sg : SG M q N x x (addM M x n) j n.toNat s.b
  ev : 2 + j ≤ s.ev.length
structure TP4 (M : Int) (q : SqC) (N : Nat) (x n : Int) (j : Nat) (s : SqN) (f : FrS) : Prop where
  xm : InM M x
  n1 : 1 ≤ n
  n2 : n ≤ q.c.cap
  fr : f = { val := addM M x j }
  le : (j : Int) ≤ n
  sg : SG M q N x x (addM M x n) n.toNat n.toNat s.b
  ev : 3 ≤ s.ev.length
theorem pp4_step (hnp : 1 ≤ q.c.producers) {j : Nat} (h : PP4 M q N x n j s f) :
    ((publish4 M q 0 s f).1 = true ∧ Pd4 M q N x n (publish4 M q 0 s f).2.1) ∨ ((publish4 M q 0 s f).1 = false ∧ PP4 M q N x n (j + 1) (publish4 M q 0 s f).2.1 (publish4 M q 0 s f).2.2) := by
  obtain ⟨xm, n1, n2, rfl, lt, sg, ev⟩ := h
  have hM := sg.fit.M2
  have hmay : mayP q 0 ({ n := n, from_ := x, i := j } : FrS) = true := decide_eq_true ⟨Int.le_refl 0, by omega, n1, n2⟩
  have hcell := sg.cell (addM M x j)
  have hst := store_set sg.fit.ok hcell.2.2.2 0 (addM M (addM M x j) 1)
  have hf' := sg.fit.store 0 (stampC q (addM M x j)) (addM_in hM (addM M x j) 1)
  have sg' := sg.stamp (k := j) (by omega) hst hf' (a' := j + 1) (z' := n.toNat) ⟨fun _ => rfl, fun hh => by omega, fun hh => by omega⟩ (fun i hne => ⟨fun hh => by omega, fun hh => by omega, fun _ hh => hh⟩)
  unfold publish4
  rw [if_neg (by rw [hmay]; decide)]
  dsimp only
  by_cases hl : (j : Int) + 1 < n
  · rw [if_pos hl]
    exact .inr ⟨rfl, xm, n1, n2, rfl, by omega, sg', by simp; omega⟩
  · rw [if_neg hl]
    have hj : n.toNat = j + 1 := by omega
    exact .inl ⟨rfl, xm, n1, n2, by rw [hj] at sg' ⊢; exact sg', by simp; omega⟩
theorem tp4_step {j : Nat} (t : Int) (ha : ∀ k : Nat, k < N → (k : Int) ∈ q.ends) (h : TP4 M q N x n j s f) :
    ((tip4 M q t s f).1 = true ∧ GP4 M q N (addM M x n) 0 (tip4 M q t s f).2.1 ∧ (tip4 M q t s f).2.2.val = addM M x n) ∨ ((tip4 M q t s f).1 = false ∧ TP4 M q N x n (j + 1) (tip4 M q t s f).2.1 (tip4 M q t s f).2.2) := by
  obtain ⟨xm, n1, n2, rfl, le, sg, ev⟩ := h
  have hM := sg.fit.M2
  have hcell := sg.cell (addM M x j)
  have hl1 : (s.b.load t (stampC q (addM M x j))).1 = s.b.at_ (stampC q (addM M x j)) := load_is hcell.2.2.2 t
  have hsm := load_same s.b t (stampC q (addM M x j))
  have sg' := sg.same hsm (sg.fit.load _ _)
  unfold tip4
  dsimp only
  rw [hl1]
  by_cases hl : j < n.toNat
  · rw [(sg.st j (by omega)).1 hl, if_pos rfl, addM_addM hM]
    exact .inr ⟨rfl, xm, n1, n2, by rw [Int.natCast_add]; rfl, by omega, sg', ev⟩
  · have hj : (j : Int) = n := by omega
    have hsh := sg'.shift xm (by omega)
    rw [show ((n.toNat : Nat) : Int) = n by omega] at hsh
    have hpi : InM M (addM M x n) := addM_in hM _ _
    have hnx := stamp_next hM sg.cap hpi
    have h0 := (hsh.st 0 (by have := sg.cap.bd; omega)).2.2 (by omega)
    rw [show addM M (addM M x n) ((0 : Nat) : Int) = addM M x n from addM_zero hpi, hsm.2] at h0
    rw [hj, if_neg (by rcases h0 with e | e <;> rw [e]
                       · exact fun e2 => hnx.1 e2.symm
                       · exact hnx.2.2)]
    refine .inl ⟨rfl, ⟨?_, hpi, ev⟩, rfl⟩
    rw [hj] at hsh
    exact SP.start hsh ha
end
section
variable {v wd cp np st M : Int} {N c EC : Nat} {A EA : Option Addr}
theorem CaseN.rest4 (h : CaseN 4 wd cp np st M N) : SG M (qN 4 wd cp np st A N c N EA EC) N (cutM M st) (cutM M st) (cutM M st) 0 0 (newBS (mkLay (cfN 4 wd cp np st A N c))) := by
  have hb := h.cap.bd
  have hM := h.M2
  have hl : (newBS (mkLay (cfN 4 wd cp np st A N c))).l = mkLay (cfN 4 wd cp np st A N c) := rfl
  have hlay := h.lay (A := A) (c := c) (by decide)
  refine ⟨h.fit, CaseN.lc, rfl, fun e he => ?_, fun e he => (h.ends e).1 he, fun e he => ?_, by show (mkLay (cfN 4 wd cp np st A N c)).claim = _; rw [hlay], ?_, ?_, by show (mkLay (cfN 4 wd cp np st A N c)).marks = _; rw [hlay], fun i hi => ?_, fun i hi => ?_⟩
  · have h1 := (h.ends e).1 he
    rw [hl]; exact h.kind (by decide) ⟨h1.1, by omega⟩
  · have h1 := (h.ends e).1 he
    obtain ⟨k, rfl⟩ := Int.eq_ofNat_of_zero_le h1.1
    exact h.at_ (by decide) k (by omega)
  · rw [hl]; exact h.kind (by decide) ⟨by omega, Int.le_refl _⟩
  · exact h.at_ (by decide) N (Nat.le_refl _)
  · have hi2 : (i : Int) < cp := hi
    rw [hl, hlay]
    unfold Lay.kind
    dsimp only
    rw [if_neg (by omega), if_neg (by omega), if_neg (by omega)]
  · have hi2 : (i : Int) < cp := hi
    have hs := slotI_bd (x := addM M (cutM M st) i) h.cap
    have e : stampC (qN 4 wd cp np st A N c N EA EC) (addM M (cutM M st) i) = (N : Int) + 1 + slotI cp (addM M (cutM M st) i) := by
      show (mkLay (cfN 4 wd cp np st A N c)).mark (slotI cp (addM M (cutM M st) i)) = _
      rw [hlay]
      unfold Lay.mark Lay.slotAt
      dsimp only
      rw [if_pos ⟨by omega, by omega, hs.1, hs.2⟩]
    have hat : (newBS (mkLay (cfN 4 wd cp np st A N c))).at_ (stampC (qN 4 wd cp np st A N c N EA EC) (addM M (cutM M st) i)) = addM M (cutM M st) i := by
      rw [e]
      have h1 := newBS_at (mkLay (cfN 4 wd cp np st A N c)) ((N : Int) + 1 + slotI cp (addM M (cutM M st) i)).toNat (by rw [hlay]; dsimp only; omega)
      unfold BS.at_
      rw [List.getD_eq_getElem?_getD, h1]
      show (mkLay (cfN 4 wd cp np st A N c)).first ((((N : Int) + 1 + slotI cp (addM M (cutM M st) i)).toNat : Nat) : Int) = _
      rw [Int.toNat_of_nonneg (by omega), hlay]
      unfold Lay.first
      dsimp only
      rw [if_neg (by omega), if_neg (by omega), if_pos (show (cfN 4 wd cp np st A N c).variant = 4 from rfl)]
      have hst : startI (cfN 4 wd cp np st A N c) = cutM M st := by unfold startI; rw [h.m]; rfl
      rw [hst, show MW (cfN 4 wd cp np st A N c).width = M from h.m.symm, show (N : Int) + 1 + slotI cp (addM M (cutM M st) i) - (N + 1) = slotI cp (addM M (cutM M st) i) by omega]
      show firstI M cp _ _ = _
      unfold firstI
      rw [← (first_hit hM h.cap hs ⟨by omega, hi2⟩).1 rfl]
    exact ⟨fun hh => by omega, fun _ hh => by omega, fun _ => .inl hat⟩
theorem alone4_is (h : CaseN 4 wd cp np st M N) :
    ∃ (Rest : Int → SqN → Prop) (CP PP TP : Int → Int → Nat → SqN → FrS → Prop) (Tk Pd : Int → Int → SqN → Prop) (GP : Int → Nat → SqN → Prop),
      Alone SqN M cp N (4 * cp.toNat + N + 8) (fun s => s.b) (fun s b => { s with b := b }) (fun s f => claim4 M (qN 4 wd cp np st A N c N EA EC) 0 s f) (fun s f => publish4 M (qN 4 wd cp np st A N c N EA EC) 0 s f) (fun s f => tip4 M (qN 4 wd cp np st A N c N EA EC) np s f) (fun m s => StN M (qN 4 wd cp np st A N c N EA EC) m s) Rest CP PP TP Tk Pd GP
      ∧ Rest (cutM M st) (sN 4 wd cp np st M A N c) ∧ StN M (qN 4 wd cp np st A N c N EA EC) 0 (sN 4 wd cp np st M A N c) ∧ ∀ y j s, GP y j s → 3 ≤ s.ev.length := by
  have hM := h.M2
  have hb := h.cap.bd
  have h16 := h.c16
  have hN1 := h.n
  have z1 : (0 : Int) ≤ 0 ∧ (0 : Int) ≤ 1000000 := ⟨Int.le_refl 0, by decide⟩
  have he6 : (qN 4 wd cp np st A N c N EA EC).ends.length ≤ 6 := endsP_len _
  refine ⟨Rest4 M (qN 4 wd cp np st A N c N EA EC) N, CP4 M (qN 4 wd cp np st A N c N EA EC) N, PP4 M (qN 4 wd cp np st A N c N EA EC) N, TP4 M (qN 4 wd cp np st A N c N EA EC) N, Tk4 M (qN 4 wd cp np st A N c N EA EC) N, Pd4 M (qN 4 wd cp np st A N c N EA EC) N, GP4 M (qN 4 wd cp np st A N c N EA EC) N, ?_, h.rest4, h.st0, fun y j s hg => hg.2.2⟩
  exact {
    claim0 := fun hx h1 h2 hR => ⟨hx, h1, h2, rfl, rfl, ⟨Int.le_refl 0, by show (0 : Int) ≤ 6; decide⟩, .inl ⟨rfl, rfl, rfl, rfl, hR⟩⟩
    claim1 := fun {x n j m s f} hS hc => by
      have hn2 : n ≤ cp := hc.n2
      refine ⟨?_, ⟨?_, by rw [hc.val]; exact in_0 hM, ⟨hc.ii.1, by have := hc.ii.2; omega⟩, ?_⟩, cp4_step (show 1 ≤ np from h.pr.1) h.ends1 he6 hS.len hc⟩
      · rcases hc.at_ with ⟨rfl, _⟩ | ⟨_, k, ex, _, hkn, _, hex, ⟨_, _, hl | ⟨hl, _⟩⟩ | ⟨_, _, _, _, i, _, hil, _, hl⟩ | ⟨_, _, _, hl⟩ | ⟨_, _, hl⟩⟩
        · omega
        all_goals (have hex2 : ex ≤ 6 := by rcases hex with h1 | ⟨h1, _⟩ <;> omega)
        all_goals omega
      · rcases hc.at_ with ⟨_, _, hf, _⟩ | ⟨hf, _⟩ <;> rw [hf]
        · exact in_0 hM
        · exact hc.xm
      · rcases hc.at_ with ⟨_, _, _, hj, _⟩ | ⟨_, k, ex, hj, hkn, _⟩ <;> rw [hj]
        · exact z1
        · exact ⟨by omega, by omega⟩
    publish0 := fun {x n s} hk => ⟨hk.1, hk.2.1, hk.2.2.1, rfl, by have := hk.2.1; omega, hk.2.2.2.1, by have := hk.2.2.2.2; omega⟩
    publish1 := fun {x n j m s f} hS hp => by
      have hn2 : n ≤ cp := hp.n2
      refine ⟨by have := hp.lt; omega, ?_, pp4_step (show 1 ≤ np from h.pr.1) hp⟩
      rw [hp.fr]
      exact ⟨hp.xm, in_0 hM, ⟨by show (0 : Int) ≤ (j : Int); omega, by have := hp.lt; show (j : Int) ≤ 1000000; omega⟩, z1⟩
    tip0 := fun {x n s} hk => ⟨hk.1, hk.2.1, hk.2.2.1, by show ({ val := x } : FrS) = { val := addM M x 0 }; rw [addM_zero hk.1], by have := hk.2.1; omega, hk.2.2.2.1, hk.2.2.2.2⟩
    tip1 := fun {x n j m s f} hS hp => by
      have hn2 : n ≤ cp := hp.n2
      refine ⟨by have := hp.le; omega, ?_, tp4_step np (fun k hk => (h.ends k).2 ⟨by omega, by omega⟩) hp⟩
      rw [hp.fr]
      exact ⟨in_0 hM, addM_in hM _ _, z1, z1⟩
    gate1 := fun hS hg hj t => ⟨hg.1.step hj hg.2.1 t, hg.2.1, hg.2.2⟩
    gate2 := fun hg hj => hg.1.done hj
    stClaim := fun hS => hS.claim4 0 _
    stPublish := fun hS _ => hS.publish4 0 _
    stTip := fun hS _ => hS.tip4 np _
    stGate := fun hS hv => hS.gate _ _ hv }
end
end Go.Proofs.YtnkmlopjinihiaaDoor
