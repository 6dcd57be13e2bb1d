/- Plain graphs: who reads behind whom; what is reached; that a table lengthened by each number, and a search from a number on, tell just what is reached. No program, no memory. -/
import Derived.RowKit
namespace Go.Proofs.YtnkmlopjinihiaaDoor

/-- b is ahead of a (in a's list) -/
def Edge (up : List (List Int)) (a b : Nat) : Prop := ∃ l, up[a]? = some l ∧ (b : Int) ∈ l
inductive Reach (up : List (List Int)) : Nat → Nat → Prop where
  | one {a b : Nat} (h : Edge up a b) : Reach up a b
  | more {a b c : Nat} (h : Edge up a b) (t : Reach up b c) : Reach up a c
theorem Reach.trans {up : List (List Int)} {a b c : Nat} (h : Reach up a b) (k : Reach up b c) : Reach up a c := by
  induction h with
  | one h => exact .more h k
  | more h _ ih => exact .more h (ih k)
def inRange (n : Nat) (l : List Int) : Prop := ∀ x ∈ l, 0 ≤ x ∧ x < n
def namesP (n : Nat) (l : List Int) : Prop := inRange n l ∧ l.Nodup
noncomputable instance namesP_dec (n : Nat) (l : List Int) : Decidable (namesP n l) := Classical.propDecidable _
noncomputable def namesB (n : Nat) (l : List Int) : Bool := decide (namesP n l)
def cycP (up : List (List Int)) : Prop := ∃ c, c < up.length ∧ Reach up c c
open Classical in
/-- what is wrong with a graph -/
noncomputable def graphCode (up : List (List Int)) : Int :=
  if up.length < 1 ∨ 6 < up.length then 6 else if ∃ l ∈ up, ¬ namesP up.length l then 7 else if cycP up then 8 else 0
def NamesUp (up : List (List Int)) : Prop := ∀ l ∈ up, namesP up.length l
structure UpOk (up : List (List Int)) : Prop where
  len : 1 ≤ up.length ∧ up.length ≤ 6
  names : NamesUp up
  acyc : ¬ cycP up
theorem upOk_of_code {up : List (List Int)} (h : graphCode up = 0) : UpOk up := by
  unfold graphCode at h
  split at h
  · simp at h
  · split at h
    · simp at h
    · split at h
      · simp at h
      · rename_i h1 h2 h3
        exact ⟨by omega, fun l hl => Classical.byContradiction fun hn => h2 ⟨l, hl, hn⟩, h3⟩
theorem code_of_upOk {up : List (List Int)} (h : UpOk up) : graphCode up = 0 := by
  unfold graphCode
  rw [if_neg (by have := h.len; omega), if_neg (fun ⟨l, hl, hn⟩ => hn (h.names l hl)), if_neg h.acyc]
theorem Edge.lt {up : List (List Int)} (h : NamesUp up) {a b : Nat} (e : Edge up a b) : a < up.length ∧ b < up.length := by
  obtain ⟨l, hl, hb⟩ := e
  have := (h l (List.mem_of_getElem? hl)).1 _ hb
  exact ⟨(List.getElem?_eq_some_iff.1 hl).1, by omega⟩
theorem Reach.lt {up : List (List Int)} (h : NamesUp up) {a b : Nat} (e : Reach up a b) : a < up.length ∧ b < up.length := by
  induction e with
  | one h1 => exact h1.lt h
  | more h1 _ ih => exact ⟨(h1.lt h).1, ih.2⟩

/-! ### a table, lengthened -/
/-- paths whose inner numbers are below k -/
inductive Path (up : List (List Int)) (k : Nat) : Nat → Nat → Prop where
  | edge {a b : Nat} (h : Edge up a b) : Path up k a b
  | join {a m b : Nat} (h : m < k) (p : Path up k a m) (q : Path up k m b) : Path up k a b
theorem Path.reach {up : List (List Int)} {k a b : Nat} (h : Path up k a b) : Reach up a b := by
  induction h with
  | edge h => exact .one h
  | join _ _ _ ih1 ih2 => exact ih1.trans ih2
theorem Path.mono {up : List (List Int)} {k k' a b : Nat} (h : Path up k a b) (hk : k ≤ k') : Path up k' a b := by
  induction h with
  | edge h => exact .edge h
  | join hm _ _ ih1 ih2 => exact .join (by omega) ih1 ih2
theorem Reach.path {up : List (List Int)} (hn : NamesUp up) {a b : Nat} (h : Reach up a b) : Path up up.length a b := by
  induction h with
  | one h => exact .edge h
  | more h t ih => exact .join (h.lt hn).2 (.edge h) ih
/-- one number more: a path below k+1 is one below k, or goes through k. -/
theorem Path.succ {up : List (List Int)} {k a b : Nat} (h : Path up (k + 1) a b) : Path up k a b ∨ (Path up k a k ∧ Path up k k b) := by
  induction h with
  | edge h => exact .inl (.edge h)
  | @join a m b hm p q ih1 ih2 =>
    by_cases hk : m = k
    · subst hk
      rcases ih1 with h1 | ⟨h1, h1'⟩ <;> rcases ih2 with h2 | ⟨h2, h2'⟩
      · exact .inr ⟨h1, h2⟩
      · exact .inr ⟨h1, h2'⟩
      · exact .inr ⟨h1, h2⟩
      · exact .inr ⟨h1, h2'⟩
    · have hm' : m < k := by omega
      rcases ih1 with h1 | ⟨h1, h1'⟩ <;> rcases ih2 with h2 | ⟨h2, h2'⟩
      · exact .inl (.join hm' h1 h2)
      · exact .inr ⟨.join hm' h1 h2, h2'⟩
      · exact .inr ⟨h1, .join hm' h1' h2⟩
      · exact .inr ⟨h1, h2'⟩

/-! ### names -/
structure NamesInv (n : Nat) (xs : List Int) (k g : Nat) : Prop where
  lt : g < 64
  rng : inRange n (xs.take k)
  nd : (xs.take k).Nodup
  bits : ∀ j : Nat, g.testBit j = true ↔ (j : Int) ∈ xs.take k
theorem NamesInv.zero (n : Nat) (xs : List Int) : NamesInv n xs 0 0 := ⟨by omega, by simp [inRange], by simp, by simp⟩
theorem take_succ_get {xs : List Int} {k : Nat} {x : Int} (h : xs[k]? = some x) : xs.take (k + 1) = xs.take k ++ [x] := by
  rw [List.take_add_one, h]; rfl
theorem or_lt64 {g i : Nat} (hg : g < 64) (hi : i < 6) : g ||| 2 ^ i < 64 := by
  have : 2 ^ i < 2 ^ 6 := Nat.pow_lt_pow_right (by omega) hi
  exact Nat.or_lt_two_pow (n := 6) (by omega) this
theorem NamesInv.step {n : Nat} (hn : n ≤ 6) {xs : List Int} {k g i : Nat} (h : NamesInv n xs k g) (hx : xs[k]? = some (i : Int)) (hi : i < n) (hb : g.testBit i = false) : NamesInv n xs (k + 1) (g ||| 2 ^ i) := by
  have ht := take_succ_get hx
  refine ⟨or_lt64 h.lt (by omega), ?_, ?_, ?_⟩
  · rw [ht]; intro y hy
    rcases List.mem_append.1 hy with hy | hy
    · exact h.rng y hy
    · simp at hy; omega
  · rw [ht, List.nodup_append]
    refine ⟨h.nd, by simp, ?_⟩
    intro a ha b hb' hab
    simp at hb'
    subst hb'; subst hab
    have := (h.bits i).2 ha
    simp [hb] at this
  · intro j
    rw [ht, Nat.testBit_or, List.mem_append, Bool.or_eq_true, h.bits j, Nat.testBit_two_pow]
    simp
    constructor
    · rintro (h1 | h1)
      · exact .inl h1
      · exact .inr (by omega)
    · rintro (h1 | h1)
      · exact .inl h1
      · exact .inr (by omega)
theorem NamesInv.fail_range {n : Nat} {xs : List Int} {k : Nat} {x : Int} (hx : xs[k]? = some x) (hr : ¬ (0 ≤ x ∧ x < n)) : namesB n xs = false := by
  unfold namesB
  rw [decide_eq_false_iff_not]
  exact fun h => hr (h.1 x (List.mem_of_getElem? hx))
theorem NamesInv.fail_twice {n : Nat} {xs : List Int} {k g i : Nat} (h : NamesInv n xs k g) (hx : xs[k]? = some (i : Int)) (hb : g.testBit i = true) : namesB n xs = false := by
  unfold namesB
  rw [decide_eq_false_iff_not]
  intro hn
  have hm := (h.bits i).1 hb
  have hlt := (List.getElem?_eq_some_iff.1 hx).1
  have h1 : xs = xs.take k ++ xs.drop k := (List.take_append_drop k xs).symm
  have h2 : (i : Int) ∈ xs.drop k := by
    rw [List.drop_eq_getElem_cons hlt]
    have : xs[k] = (i : Int) := (List.getElem?_eq_some_iff.1 hx).2
    simp [this]
  have h3 := hn.2
  rw [h1, List.nodup_append] at h3
  exact h3.2.2 _ hm _ h2 rfl
theorem NamesInv.done {n : Nat} {xs : List Int} {g : Nat} (h : NamesInv n xs xs.length g) : namesB n xs = true := by
  unfold namesB
  rw [decide_eq_true_iff]
  have h1 := h.rng
  have h2 := h.nd
  rw [List.take_length] at h1 h2
  exact ⟨h1, h2⟩

/-- the first k of a list name others, each once -/
structure PreOk (n : Nat) (xs : List Int) (k : Nat) : Prop where
  rng : inRange n (xs.take k)
  nd : (xs.take k).Nodup
theorem PreOk.zero (n : Nat) (xs : List Int) : PreOk n xs 0 := ⟨by simp [inRange], by simp⟩
theorem PreOk.step {n : Nat} {xs : List Int} {k : Nat} {x : Int} (h : PreOk n xs k) (hx : xs[k]? = some x) (hr : 0 ≤ x ∧ x < n) (hm : x ∉ xs.take k) : PreOk n xs (k + 1) := by
  have ht := take_succ_get hx
  refine ⟨?_, ?_⟩
  · rw [ht]; intro y hy
    rcases List.mem_append.1 hy with hy | hy
    · exact h.rng y hy
    · simp at hy; omega
  · rw [ht, List.nodup_append]
    refine ⟨h.nd, by simp, ?_⟩
    intro a ha b hb' hab
    simp at hb'
    subst hb'; subst hab
    exact hm ha
theorem PreOk.twice {n : Nat} {xs : List Int} {k : Nat} {x : Int} (hx : xs[k]? = some x) (hm : x ∈ xs.take k) : namesB n xs = false := by
  unfold namesB
  rw [decide_eq_false_iff_not]
  intro hn
  have hlt := (List.getElem?_eq_some_iff.1 hx).1
  have h1 : xs = xs.take k ++ xs.drop k := (List.take_append_drop k xs).symm
  have h2 : x ∈ xs.drop k := by
    rw [List.drop_eq_getElem_cons hlt]
    have : xs[k] = x := (List.getElem?_eq_some_iff.1 hx).2
    simp [this]
  have h3 := hn.2
  rw [h1, List.nodup_append] at h3
  exact h3.2.2 _ hm _ h2 rfl
theorem PreOk.done {n : Nat} {xs : List Int} (h : PreOk n xs xs.length) : namesB n xs = true := by
  unfold namesB
  rw [decide_eq_true_iff]
  have h1 := h.rng
  have h2 := h.nd
  rw [List.take_length] at h1 h2
  exact ⟨h1, h2⟩

/-! ### a search -/
/-- g has turned to g': by what is reached from c; what is new has all that is ahead of it in g' -/
structure Grew (up : List (List Int)) (c g g' : Nat) : Prop where
  lt : g' < 64
  sub : ∀ i, g.testBit i = true → g'.testBit i = true
  sound : ∀ i, g'.testBit i = true → g.testBit i = true ∨ Reach up c i
  closed : ∀ i, g'.testBit i = true → g.testBit i = false → ∀ j, Edge up i j → g'.testBit j = true
/-- in the middle of c's list -/
structure CInv (up : List (List Int)) (c g : Nat) (l : List Int) (k g' : Nat) : Prop extends Grew up c g g' where
  first : ∀ j : Nat, (j : Int) ∈ l.take k → g'.testBit j = true
theorem CInv.zero {up : List (List Int)} {c g : Nat} {l : List Int} (h : g < 64) : CInv up c g l 0 g :=
  ⟨⟨h, fun _ h => h, fun _ h => .inl h, fun i h1 h2 => by simp [h1] at h2⟩, by simp⟩
theorem CInv.met {up : List (List Int)} {c g : Nat} {l : List Int} {k g' i : Nat} (h : CInv up c g l k g') (hx : l[k]? = some (i : Int)) (hb : g'.testBit i = true) : CInv up c g l (k + 1) g' := by
  refine ⟨h.toGrew, fun j hj => ?_⟩
  rw [take_succ_get hx] at hj
  rcases List.mem_append.1 hj with hj | hj
  · exact h.first j hj
  · simp at hj
    have : j = i := by omega
    subst this; exact hb
theorem testBit_or_pow {g i j : Nat} : (g ||| 2 ^ i).testBit j = (g.testBit j || decide (i = j)) := by
  rw [Nat.testBit_or, Nat.testBit_two_pow]
theorem CInv.climbed {up : List (List Int)} {c g : Nat} {l : List Int} {k g' g2 i : Nat} (h : CInv up c g l k g') (hc : up[c]? = some l) (hx : l[k]? = some (i : Int)) {l2 : List Int} (hi : up[i]? = some l2)
    (h2 : CInv up i (g' ||| 2 ^ i) l2 l2.length g2) : CInv up c g l (k + 1) g2 := by
  have he : Edge up c i := ⟨l, hc, List.mem_of_getElem? hx⟩
  have hs : ∀ j, g'.testBit j = true → g2.testBit j = true := fun j hj => h2.sub j (by rw [testBit_or_pow, hj]; rfl)
  have hbi : g2.testBit i = true := h2.sub i (by rw [testBit_or_pow]; simp)
  refine ⟨⟨h2.lt, fun j hj => hs j (h.sub j hj), fun j hj => ?_, fun j hj hjn m hm => ?_⟩, fun j hj => ?_⟩
  · rcases h2.sound j hj with h3 | h3
    · rw [testBit_or_pow, Bool.or_eq_true] at h3
      rcases h3 with h3 | h3
      · exact h.sound j h3
      · have : i = j := by simpa using h3
        subst this
        exact .inr (.one he)
    · exact .inr (.more he h3)
  · by_cases h4 : (g' ||| 2 ^ i).testBit j = true
    · rw [testBit_or_pow, Bool.or_eq_true] at h4
      rcases h4 with h4 | h4
      · exact hs m (h.closed j h4 hjn m hm)
      · have : i = j := by simpa using h4
        subst this
        obtain ⟨l3, hl3, hm3⟩ := hm
        rw [hi] at hl3
        cases hl3
        exact h2.first m (by rw [List.take_length]; exact hm3)
    · exact h2.closed j hj (by simpa using h4) m hm
  · rw [take_succ_get hx] at hj
    rcases List.mem_append.1 hj with hj | hj
    · exact hs j (h.first j hj)
    · simp at hj
      have : j = i := by omega
      subst this; exact hbi
/-- how many are not in g -/
def left6 (g : Nat) : Nat := (List.range 6).countP fun i => !g.testBit i
theorem left6_mono {g g' : Nat} (h : ∀ i, g.testBit i = true → g'.testBit i = true) : left6 g' ≤ left6 g := by
  unfold left6
  refine List.countP_mono_left fun i _ hi => ?_
  cases h1 : g.testBit i
  · rfl
  · simp [h i h1] at hi
theorem left6_lt {g i : Nat} (hi : i < 6) (hb : g.testBit i = false) : left6 (g ||| 2 ^ i) < left6 g := by
  have h0 : left6 (g ||| 2 ^ i) ≤ left6 g := left6_mono fun j hj => by rw [testBit_or_pow, hj]; rfl
  have key : ∀ (l : List Nat), i ∈ l → l.countP (fun j => !(g ||| 2 ^ i).testBit j) < l.countP (fun j => !g.testBit j) := by
    intro l
    induction l with
    | nil => simp
    | cons a l ih =>
      intro hm
      rw [List.countP_cons, List.countP_cons]
      have hle : l.countP (fun j => !(g ||| 2 ^ i).testBit j) ≤ l.countP (fun j => !g.testBit j) := List.countP_mono_left fun j _ hj => by
        rw [testBit_or_pow] at hj
        simp at hj ⊢
        exact hj.1
      by_cases ha : a = i
      · subst ha
        have h1 : (g ||| 2 ^ a).testBit a = true := by rw [testBit_or_pow]; simp
        rw [h1, hb]
        simp only [Bool.not_true, Bool.not_false, Bool.false_eq_true, ite_true, ite_false]
        omega
      · rcases List.mem_cons.1 hm with hm | hm
        · exact absurd hm.symm ha
        · have := ih hm
          have h3 : (g ||| 2 ^ i).testBit a = g.testBit a := by
            rw [testBit_or_pow]
            have : decide (i = a) = false := by simp; omega
            rw [this, Bool.or_false]
          rw [h3]
          omega
  exact key (List.range 6) (by simp; omega)
theorem left6_le (g : Nat) : left6 g ≤ 6 := by
  unfold left6
  have := List.countP_le_length (p := fun i => !g.testBit i) (l := List.range 6)
  simpa using this
/-- a search from c on finds just what is reached -/
theorem CInv.exact {up : List (List Int)} {c g : Nat} {l : List Int} (hc : up[c]? = some l) (h : CInv up c 0 l l.length g) (i : Nat) : g.testBit i = true ↔ Reach up c i := by
  constructor
  · intro hi
    rcases h.sound i hi with h1 | h1
    · simp at h1
    · exact h1
  · have cl : ∀ a b, Reach up a b → g.testBit a = true → g.testBit b = true := by
      intro a b hr
      induction hr with
      | one e => exact fun ha => h.closed _ ha (by simp) _ e
      | more e _ ih => exact fun ha => ih (h.closed _ ha (by simp) _ e)
    have st : ∀ b, Edge up c b → g.testBit b = true := by
      rintro b ⟨l3, hl3, hm3⟩
      rw [hc] at hl3
      cases hl3
      exact h.first b (by rw [List.take_length]; exact hm3)
    intro hr
    cases hr with
    | one e => exact st _ e
    | more e t => exact cl _ _ t (st _ e)
/-! ### the table -/
def updT (t : Nat → Nat → Bool) (a b : Nat) (v : Bool) : Nat → Nat → Bool := fun x y => if x = a ∧ y = b then v else t x y
/-- the table of the first lists: of c lists, and of q entries of the next one -/
def TabE (up : List (List Int)) (c q : Nat) (t : Nat → Nat → Bool) : Prop :=
  ∀ a b, t a b = true ↔ (a < c ∧ Edge up a b) ∨ (a = c ∧ ∃ l, up[c]? = some l ∧ (b : Int) ∈ l.take q)
theorem TabE.zero (up : List (List Int)) : TabE up 0 0 (fun _ _ => false) := by
  intro a b
  simp
theorem TabE.step {up : List (List Int)} {c q : Nat} {t : Nat → Nat → Bool} {l : List Int} {i : Nat} (h : TabE up c q t) (hl : up[c]? = some l) (hx : l[q]? = some (i : Int)) : TabE up c (q + 1) (updT t c i true) := by
  intro a b
  unfold updT
  by_cases hab : a = c ∧ b = i
  · rw [if_pos hab]
    obtain ⟨rfl, rfl⟩ := hab
    exact ⟨fun _ => .inr ⟨rfl, l, hl, by rw [take_succ_get hx]; simp⟩, fun _ => rfl⟩
  · rw [if_neg hab, h a b]
    constructor
    · rintro (h1 | ⟨h1, l', hl', h2⟩)
      · exact .inl h1
      · exact .inr ⟨h1, l', hl', by rw [hl] at hl'; cases hl'; rw [take_succ_get hx]; simp [h2]⟩
    · rintro (h1 | ⟨h1, l', hl', h2⟩)
      · exact .inl h1
      · rw [hl] at hl'; cases hl'
        rw [take_succ_get hx] at h2
        rcases List.mem_append.1 h2 with h3 | h3
        · exact .inr ⟨h1, l, hl, h3⟩
        · simp at h3
          exact absurd ⟨h1, by omega⟩ hab
theorem TabE.next {up : List (List Int)} {c : Nat} {t : Nat → Nat → Bool} {l : List Int} (h : TabE up c l.length t) (hl : up[c]? = some l) : TabE up (c + 1) 0 t := by
  intro a b
  rw [h a b]
  constructor
  · rintro (⟨h1, h2⟩ | ⟨h1, l', hl', h2⟩)
    · exact .inl ⟨by omega, h2⟩
    · subst h1
      rw [hl] at hl'; cases hl'
      exact .inl ⟨by omega, l, hl, by simpa using h2⟩
  · rintro (⟨h1, h2⟩ | ⟨h1, l', hl', h2⟩)
    · by_cases hac : a = c
      · subst hac
        obtain ⟨l', hl', h3⟩ := h2
        rw [hl] at hl'; cases hl'
        exact .inr ⟨rfl, l, hl, by simpa using h3⟩
      · exact .inl ⟨by omega, h2⟩
    · simp at h2
/-- the table in the middle of the lengthening: rows below a, and b of a's, are through with k -/
structure TabM (up : List (List Int)) (k a b : Nat) (t : Nat → Nat → Bool) : Prop where
  sound : ∀ x y, t x y = true → Reach up x y
  comp : ∀ x y, x < 6 → y < 6 → Path up k x y → t x y = true
  mid : ∀ x y, x < 6 → y < 6 → (x < a ∨ (x = a ∧ y < b)) → Path up k x k → Path up k k y → t x y = true
theorem TabM.zero {up : List (List Int)} {n : Nat} (hn : up.length ≤ n) {t : Nat → Nat → Bool} (h : TabE up n 0 t) : TabM up 0 0 0 t := by
  refine ⟨fun x y hxy => ?_, fun x y hx hy hp => ?_, fun x y _ _ h => by omega⟩
  · rcases (h x y).1 hxy with h1 | ⟨_, l, _, h2⟩
    · exact .one h1.2
    · simp at h2
  · have he : Edge up x y := by
      cases hp with
      | edge e => exact e
      | join hm _ _ => omega
    refine (h x y).2 (.inl ⟨?_, he⟩)
    obtain ⟨l, hl, _⟩ := he
    have := (List.getElem?_eq_some_iff.1 hl).1
    omega
theorem TabM.step {up : List (List Int)} {k a b : Nat} {t : Nat → Nat → Bool} (h : TabM up k a b t) (hk : k < 6) (ha : a < 6) (hb : b < 6) : TabM up k a (b + 1) (updT t a b (t a b || (t a k && t k b))) := by
  unfold updT
  refine ⟨fun x y hxy => ?_, fun x y hx hy hp => ?_, fun x y hx hy hm p1 p2 => ?_⟩
  · by_cases he : x = a ∧ y = b
    · obtain ⟨rfl, rfl⟩ := he
      simp only [and_self, if_true, Bool.or_eq_true, Bool.and_eq_true] at hxy
      rcases hxy with h1 | ⟨h1, h2⟩
      · exact h.sound _ _ h1
      · exact (h.sound _ _ h1).trans (h.sound _ _ h2)
    · rw [if_neg he] at hxy
      exact h.sound _ _ hxy
  · split
    · rename_i he
      obtain ⟨rfl, rfl⟩ := he
      rw [h.comp _ _ hx hy hp]; rfl
    · exact h.comp _ _ hx hy hp
  · split
    · rename_i he
      obtain ⟨rfl, rfl⟩ := he
      rw [h.comp _ _ hx hk p1, h.comp _ _ hk hy p2]; simp
    · rename_i he
      exact h.mid x y hx hy (by omega) p1 p2
theorem TabM.row {up : List (List Int)} {k a : Nat} {t : Nat → Nat → Bool} (h : TabM up k a 6 t) : TabM up k (a + 1) 0 t :=
  ⟨h.sound, h.comp, fun x y hx hy hm p1 p2 => h.mid x y hx hy (by omega) p1 p2⟩
theorem TabM.next {up : List (List Int)} {k : Nat} {t : Nat → Nat → Bool} (h : TabM up k 6 0 t) : TabM up (k + 1) 0 0 t :=
  ⟨h.sound, fun x y hx hy hp => by
    rcases hp.succ with h1 | ⟨h1, h2⟩
    · exact h.comp x y hx hy h1
    · exact h.mid x y hx hy (.inl hx) h1 h2, fun x y _ _ h => by omega⟩
theorem TabM.done {up : List (List Int)} (hn : NamesUp up) (h6 : up.length ≤ 6) {t : Nat → Nat → Bool} (h : TabM up 6 0 0 t) (a b : Nat) (ha : a < 6) (hb : b < 6) : t a b = true ↔ Reach up a b :=
  ⟨h.sound a b, fun hr => h.comp a b ha hb ((hr.path hn).mono h6)⟩
open Classical in
theorem code_names {up : List (List Int)} (h1 : 1 ≤ up.length ∧ up.length ≤ 6) {k : Nat} {l : List Int} (hl : up[k]? = some l) (hb : namesB up.length l = false) : graphCode up = 7 := by
  unfold graphCode
  rw [if_neg (by omega), if_pos ⟨l, List.mem_of_getElem? hl, by unfold namesB at hb; simpa using hb⟩]
theorem namesUp_of {up : List (List Int)} (h : ∀ (k : Nat) (l : List Int), up[k]? = some l → namesB up.length l = true) : NamesUp up := by
  intro l hl
  obtain ⟨k, hk⟩ := List.getElem?_of_mem hl
  have := h k l hk
  unfold namesB at this
  simpa using this
theorem code_len {up : List (List Int)} (h1 : up.length < 1 ∨ 6 < up.length) : graphCode up = 6 := by
  unfold graphCode; rw [if_pos h1]
theorem code_cyc {up : List (List Int)} (h1 : 1 ≤ up.length ∧ up.length ≤ 6) (hn : NamesUp up) {c : Nat} (hc : c < up.length) (hr : Reach up c c) : graphCode up = 8 := by
  unfold graphCode
  rw [if_neg (by omega), if_neg (fun ⟨l, hl, h⟩ => h (hn l hl)), if_pos ⟨c, hc, hr⟩]
theorem code_ok {up : List (List Int)} (h1 : 1 ≤ up.length ∧ up.length ≤ 6) (hn : NamesUp up) (h : ∀ c, c < up.length → ¬ Reach up c c) : graphCode up = 0 :=
  code_of_upOk ⟨h1, hn, fun ⟨c, hc, hr⟩ => h c hc hr⟩
end Go.Proofs.YtnkmlopjinihiaaDoor
