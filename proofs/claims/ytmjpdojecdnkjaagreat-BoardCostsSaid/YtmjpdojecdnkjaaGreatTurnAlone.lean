/- sakialaw18.TurnAlone: registers of eight threads and who is inside; the invariant. -/
import Derived.Test.YtmjpdojecdnkjaaGreatLive18
import Derived.Test.YtmjpdojecdnkjaaGreatFrame
namespace Go.Proofs.YtmjpdojecdnkjaaGreat
open Go.RowKit
set_option linter.unusedVariables false
set_option linter.unusedSimpArgs false
set_option maxHeartbeats 2000000

/-- whole numbers of a kind at a slice's address -/
def KAt (kd : IntKind) (w : World) (Bk : Nat → Prop) (A : Option Addr) (xs : List Int) : Prop :=
  ∀ i x, xs[i]? = some x → ∃ b o, A = some ⟨b, o, none⟩ ∧ Bk b ∧ w.cell? ⟨b, o + i, none⟩ = some (.int kd x)

/-- what a step of entering comes to for registers -/
def tsFr (M tk sv : Int) (f : FrS) : FrS := { f with pc := (tsEnter M tk sv f.pc f.own).2.2.1, own := (tsEnter M tk sv f.pc f.own).2.2.2 }
structure AInv (k : Nat) (fs : List FrS) (ins : List Bool) (tk sv inside last : Int) : Prop where
  nf : fs.length = 8
  ni : ins.length = 8
  ord : 0 ≤ sv ∧ sv ≤ tk ∧ tk ≤ k
  own : ∀ (t : Nat) (f : FrS), fs[t]? = some f → f.pc ≠ 0 → sv ≤ f.own ∧ f.own < tk
  one : ∀ (t u : Nat) (f g : FrS), t ≠ u → fs[t]? = some f → fs[u]? = some g → f.pc ≠ 0 → g.pc ≠ 0 → f.own ≠ g.own
  inn : ∀ (t : Nat) (f : FrS), ins[t]? = some true → fs[t]? = some f → f.pc ≠ 0 ∧ f.own = sv
  io : (inside = 0 ∧ (∀ t : Nat, ins[t]? ≠ some true) ∧ last = sv - 1) ∨ (inside = 1 ∧ (∃ t : Nat, ins[t]? = some true) ∧ last = sv)
theorem get_some {α : Type} {l : List α} {n t : Nat} (h : l.length = n) (ht : t < n) : ∃ x, l[t]? = some x := ⟨l[t]'(by omega), List.getElem?_eq_getElem (by omega)⟩
theorem AInv.start : AInv 0 (List.replicate 8 {}) (List.replicate 8 false) 0 0 0 (-1) := by
  refine ⟨rfl, rfl, by omega, ?_, ?_, ?_, .inl ⟨rfl, ?_, rfl⟩⟩
  · intro t f h; obtain ⟨_, rfl⟩ := List.mem_replicate.1 (List.mem_of_getElem? h); intro hp; exact absurd rfl hp
  · intro t u f g _ h; obtain ⟨_, rfl⟩ := List.mem_replicate.1 (List.mem_of_getElem? h); intro _ hp; exact absurd rfl hp
  · intro t f h; have := (List.mem_replicate.1 (List.mem_of_getElem? h)).2; cases this
  · intro t h; have := (List.mem_replicate.1 (List.mem_of_getElem? h)).2; cases this
section
variable {k : Nat} {fs : List FrS} {ins : List Bool} {tk sv inside last : Int}
theorem AInv.leave (h : AInv k fs ins tk sv inside last) {t : Nat} (ht : ins[t]? = some true) : AInv (k + 1) (fs.set t {}) (ins.set t false) tk (sv + 1) (inside - 1) last := by
  have htl : t < 8 := by have := (List.getElem?_eq_some_iff.1 ht).1; have := h.ni; omega
  obtain ⟨f, hf⟩ := get_some h.nf htl
  obtain ⟨hp, ho⟩ := h.inn t f ht hf
  have ho2 := h.own t f hf hp
  have hord := h.ord
  have other : ∀ u g, u ≠ t → fs[u]? = some g → g.pc ≠ 0 → g.own ≠ sv := fun u g hu hg hgp => by rw [← ho]; exact h.one u t g f hu hg hf hgp hp
  refine ⟨by rw [List.length_set]; exact h.nf, by rw [List.length_set]; exact h.ni, by omega, ?_, ?_, ?_, ?_⟩
  · intro u g hg hgp
    rw [List.getElem?_set] at hg
    by_cases hu : t = u
    · subst hu; rw [if_pos rfl, if_pos (by have := h.nf; omega)] at hg; cases hg; exact absurd rfl hgp
    · rw [if_neg hu] at hg
      have h1 := h.own u g hg hgp
      have h2 := other u g (fun e => hu e.symm) hg hgp
      omega
  · intro u v g1 g2 huv h1 h2 hp1 hp2
    rw [List.getElem?_set] at h1 h2
    by_cases hu : t = u
    · subst hu; rw [if_pos rfl, if_pos (by have := h.nf; omega)] at h1; cases h1; exact absurd rfl hp1
    · by_cases hv : t = v
      · subst hv; rw [if_pos rfl, if_pos (by have := h.nf; omega)] at h2; cases h2; exact absurd rfl hp2
      · rw [if_neg hu] at h1; rw [if_neg hv] at h2; exact h.one u v g1 g2 huv h1 h2 hp1 hp2
  · intro u g hi hg
    rw [List.getElem?_set] at hi hg
    by_cases hu : t = u
    · subst hu; rw [if_pos rfl, if_pos (by have := h.ni; omega)] at hi; cases hi
    · rw [if_neg hu] at hi hg
      obtain ⟨h1, h2⟩ := h.inn u g hi hg
      exact absurd h2 (other u g (fun e => hu e.symm) hg h1)
  · rcases h.io with ⟨_, h1, _⟩ | ⟨h1, _, h3⟩
    · exact absurd ht (h1 t)
    · refine .inl ⟨by omega, ?_, by omega⟩
      intro u hu
      rw [List.getElem?_set] at hu
      by_cases he : t = u
      · subst he; rw [if_pos rfl, if_pos (by have := h.ni; omega)] at hu; cases hu
      · rw [if_neg he] at hu
        obtain ⟨g, hg⟩ := get_some h.nf (t := u) (by have := (List.getElem?_eq_some_iff.1 hu).1; have := h.ni; omega)
        obtain ⟨h4, h5⟩ := h.inn u g hu hg
        exact absurd h5 (other u g (fun e => he e.symm) hg h4)
/-- registers that turn, with a ticket that nobody has -/
theorem AInv.turn (h : AInv k fs ins tk sv inside last) {t : Nat} {f f' : FrS} (ht : ins[t]? = some false) (hf : fs[t]? = some f) {tk' : Int} (htk : tk ≤ tk' ∧ tk' ≤ k + 1)
    (hown : f'.pc ≠ 0 → sv ≤ f'.own ∧ f'.own < tk') (hone : ∀ (u : Nat) (g : FrS), u ≠ t → fs[u]? = some g → g.pc ≠ 0 → f'.pc ≠ 0 → f'.own ≠ g.own) : AInv (k + 1) (fs.set t f') ins tk' sv inside last := by
  have hord := h.ord
  have htl : t < fs.length := (List.getElem?_eq_some_iff.1 hf).1
  refine ⟨by rw [List.length_set]; exact h.nf, h.ni, by omega, ?_, ?_, ?_, h.io⟩
  · intro u g hg hgp
    rw [List.getElem?_set] at hg
    by_cases hu : t = u
    · subst hu; rw [if_pos rfl, if_pos htl] at hg; cases hg; exact hown hgp
    · rw [if_neg hu] at hg; have := h.own u g hg hgp; omega
  · intro u v g1 g2 huv h1 h2 hp1 hp2
    rw [List.getElem?_set] at h1 h2
    by_cases hu : t = u
    · subst hu; rw [if_pos rfl, if_pos htl] at h1; cases h1
      rw [if_neg huv] at h2
      exact hone v g2 (fun e => huv e.symm) h2 hp2 hp1
    · rw [if_neg hu] at h1
      by_cases hv : t = v
      · subst hv; rw [if_pos rfl, if_pos htl] at h2; cases h2
        exact (hone u g1 huv h1 hp1 hp2).symm
      · rw [if_neg hv] at h2; exact h.one u v g1 g2 huv h1 h2 hp1 hp2
  · intro u g hi hg
    rw [List.getElem?_set] at hg
    by_cases hu : t = u
    · subst hu; rw [ht] at hi; cases hi
    · rw [if_neg hu] at hg; exact h.inn u g hi hg
theorem AInv.enter0 (h : AInv k fs ins tk sv inside last) {t : Nat} {f : FrS} (ht : ins[t]? = some false) (hf : fs[t]? = some f) : AInv (k + 1) (fs.set t { f with pc := 1, own := tk }) ins (tk + 1) sv inside last := by
  have hord := h.ord
  refine h.turn ht hf (by omega) (fun _ => by dsimp only; omega) fun u g hu hg hgp _ => ?_
  have := h.own u g hg hgp
  dsimp only; omega
theorem AInv.stay (h : AInv k fs ins tk sv inside last) {t : Nat} {f f' : FrS} (ht : ins[t]? = some false) (hf : fs[t]? = some f) (hp : f.pc ≠ 0) (ho : f'.own = f.own) : AInv (k + 1) (fs.set t f') ins tk sv inside last := by
  have hord := h.ord
  refine h.turn ht hf (by omega) (fun _ => by rw [ho]; exact h.own t f hf hp) fun u g hu hg hgp _ => by rw [ho]; exact h.one t u f g (fun e => hu e.symm) hf hg hp hgp
theorem AInv.alone (h : AInv k fs ins tk sv inside last) {t : Nat} {f : FrS} (ht : ins[t]? = some false) (hf : fs[t]? = some f) (hp : f.pc ≠ 0) (ho : f.own = sv) : inside = 0 ∧ last = sv - 1 := by
  rcases h.io with ⟨h1, _, h2⟩ | ⟨_, ⟨u, hu⟩, _⟩
  · exact ⟨h1, h2⟩
  · have hne : u ≠ t := by rintro rfl; rw [ht] at hu; cases hu
    obtain ⟨g, hg⟩ := get_some h.nf (t := u) (by have := (List.getElem?_eq_some_iff.1 hu).1; have := h.ni; omega)
    obtain ⟨h4, h5⟩ := h.inn u g hu hg
    exact absurd (h5.trans ho.symm) (h.one u t g f hne hg hf h4 hp)
theorem AInv.come (h : AInv k fs ins tk sv inside last) {t : Nat} {f f' : FrS} (ht : ins[t]? = some false) (hf : fs[t]? = some f) (hp : f.pc ≠ 0) (ho : f.own = sv) (hp' : f'.pc ≠ 0) (ho' : f'.own = f.own) :
    AInv (k + 1) (fs.set t f') (ins.set t true) tk sv 1 sv := by
  obtain ⟨hi, hl⟩ := h.alone ht hf hp ho
  have h1 := h.stay ht hf hp ho'
  have htl : t < ins.length := (List.getElem?_eq_some_iff.1 ht).1
  have htf : t < fs.length := (List.getElem?_eq_some_iff.1 hf).1
  refine ⟨h1.nf, by rw [List.length_set]; exact h.ni, h1.ord, h1.own, h1.one, ?_, .inr ⟨rfl, ⟨t, by rw [List.getElem?_set_self htl]⟩, rfl⟩⟩
  intro u g hu hg
  by_cases he : t = u
  · subst he
    rw [List.getElem?_set_self htf] at hg
    cases hg
    exact ⟨hp', ho'.trans ho⟩
  · rw [List.getElem?_set, if_neg he] at hu hg
    exact h.inn u g hu hg
end
/-- board, registers, who is inside -/
structure AW (tF tG : TypeId) (w0 w : World) (γ : Nat → Nat) (p F G : Nat) (b : BS) (fs : List FrS) (ins : List Bool) (tk sv : Int) (m : Nat) : Prop where
  old : Old w0 w γ
  brd : BoardAt 134 31 110 .u32 w γ 1 p b
  lock : LockB M32 b tk sv
  len : b.log.length ≤ m
  f : Blk w F tF (frsCs .u32 [] fs [])
  fl : γ F = 2
  g : Blk w G tG (ins.map Value.bool).toArray
  gl : γ G = 3
section
variable {tF tG : TypeId} {w0 w w' : World} {γ : Nat → Nat} {p F G : Nat} {b : BS} {fs : List FrS} {ins : List Bool} {tk sv : Int} {m : Nat}
theorem AW.setIn (h : AW tF tG w0 w γ p F G b fs ins tk sv m) (t : Nat) (v : Bool) : AW tF tG w0 (w.setCell ⟨G, t, none⟩ (.bool v)) γ p F G b fs (ins.set t v) tk sv m := by
  have h1 : Fr (OneId 3) γ γ w (w.setCell ⟨G, t, none⟩ (.bool v)) := (Fr.refl _ _ _).setCell (p := ⟨G, t, none⟩) (.inr h.gl) _
  refine ⟨h.old.fr h1 (by rintro h; cases h), h.brd.fr h1 (by rintro h; cases h), h.lock, h.len, h1.block_ h.f (by rw [h.fl]; rintro h; cases h), h.fl, ?_, h.gl⟩
  have := h.g.set_ t (.bool v)
  rw [List.setIfInBounds_toArray, ← List.map_set] at this
  exact this
theorem AW.fcell (h : AW tF tG w0 w γ p F G b fs ins tk sv m) {t : Nat} {f : FrS} (hf : fs[t]? = some f) (k : Nat) (hk : k < 11) : w.cell? ⟨F, t * 11 + k, none⟩ = (f.vs .u32)[k]? :=
  (h.f.cell (t * 11 + k)).trans (frs_get (o := t * 11) (pre := []) (show t * 11 = 0 + 11 * t by omega) hf k hk)
theorem AW.setF (h : AW tF tG w0 w γ p F G b fs ins tk sv m) {t : Nat} {f f' : FrS} (hf : fs[t]? = some f) (k : Nat) (hk : k < 11) {u : Value} (hu : (f.vs .u32).set k u = f'.vs .u32) :
    AW tF tG w0 (w.setCell ⟨F, t * 11 + k, none⟩ u) γ p F G b (fs.set t f') ins tk sv m := by
  have h1 : Fr (OneId 2) γ γ w (w.setCell ⟨F, t * 11 + k, none⟩ u) := (Fr.refl _ _ _).setCell (p := ⟨F, t * 11 + k, none⟩) (.inr h.fl) _
  refine ⟨h.old.fr h1 (by rintro h; cases h), h.brd.fr h1 (by rintro h; cases h), h.lock, h.len, ?_, h.fl, h1.block_ h.g (by rw [h.gl]; rintro h; cases h), h.gl⟩
  have := h.f.set_ (t * 11 + k) u
  rw [frs_set (o := t * 11) (pre := []) (f' := f') (show t * 11 = 0 + 11 * t by omega) hf hk hu] at this
  exact this
theorem AW.zeroF (h : AW tF tG w0 w γ p F G b fs ins tk sv m) {t : Nat} {f : FrS} (hf : fs[t]? = some f) : AW tF tG w0 (((((((((((w.setCell ⟨F, t * 11, none⟩ (.int .i64 0)).setCell ⟨F, t * 11 + 1, none⟩ (.int .i64 0)).setCell ⟨F, t * 11 + 2, none⟩ (.int .i64 0)).setCell ⟨F, t * 11 + 3, none⟩ (.int .i64 0)).setCell ⟨F, t * 11 + 4, none⟩ (.int .i64 0)).setCell ⟨F, t * 11 + 5, none⟩ (.int .i64 0)).setCell ⟨F, t * 11 + 6, none⟩ (.int .u32 0)).setCell ⟨F, t * 11 + 7, none⟩ (.int .u32 0)).setCell ⟨F, t * 11 + 8, none⟩ (.int .u32 0)).setCell ⟨F, t * 11 + 9, none⟩ (.int .u32 0)).setCell ⟨F, t * 11 + 10, none⟩ (.slice none 0 0)) γ p F G b (fs.set t {}) ins tk sv m := by
  have hl : t < fs.length := (List.getElem?_eq_some_iff.1 hf).1
  have a0 := AW.setF (f' := { f with op := 0 }) h hf 0 (by omega) (u := .int .i64 0) rfl
  have a1 := AW.setF (f' := { f with op := 0, n := 0 }) a0 (List.getElem?_set_self (by simpa using hl)) 1 (by omega) (u := .int .i64 0) rfl
  rw [List.set_set] at a1
  have a2 := AW.setF (f' := { f with op := 0, n := 0, phase := 0 }) a1 (List.getElem?_set_self (by simpa using hl)) 2 (by omega) (u := .int .i64 0) rfl
  rw [List.set_set] at a2
  have a3 := AW.setF (f' := { f with op := 0, n := 0, phase := 0, pc := 0 }) a2 (List.getElem?_set_self (by simpa using hl)) 3 (by omega) (u := .int .i64 0) rfl
  rw [List.set_set] at a3
  have a4 := AW.setF (f' := { f with op := 0, n := 0, phase := 0, pc := 0, i := 0 }) a3 (List.getElem?_set_self (by simpa using hl)) 4 (by omega) (u := .int .i64 0) rfl
  rw [List.set_set] at a4
  have a5 := AW.setF (f' := { f with op := 0, n := 0, phase := 0, pc := 0, i := 0, j := 0 }) a4 (List.getElem?_set_self (by simpa using hl)) 5 (by omega) (u := .int .i64 0) rfl
  rw [List.set_set] at a5
  have a6 := AW.setF (f' := { f with op := 0, n := 0, phase := 0, pc := 0, i := 0, j := 0, from_ := 0 }) a5 (List.getElem?_set_self (by simpa using hl)) 6 (by omega) (u := .int .u32 0) rfl
  rw [List.set_set] at a6
  have a7 := AW.setF (f' := { f with op := 0, n := 0, phase := 0, pc := 0, i := 0, j := 0, from_ := 0, min := 0 }) a6 (List.getElem?_set_self (by simpa using hl)) 7 (by omega) (u := .int .u32 0) rfl
  rw [List.set_set] at a7
  have a8 := AW.setF (f' := { f with op := 0, n := 0, phase := 0, pc := 0, i := 0, j := 0, from_ := 0, min := 0, val := 0 }) a7 (List.getElem?_set_self (by simpa using hl)) 8 (by omega) (u := .int .u32 0) rfl
  rw [List.set_set] at a8
  have a9 := AW.setF (f' := { f with op := 0, n := 0, phase := 0, pc := 0, i := 0, j := 0, from_ := 0, min := 0, val := 0, own := 0 }) a8 (List.getElem?_set_self (by simpa using hl)) 9 (by omega) (u := .int .u32 0) rfl
  rw [List.set_set] at a9
  have a10 := AW.setF (f' := { f with op := 0, n := 0, phase := 0, pc := 0, i := 0, j := 0, from_ := 0, min := 0, val := 0, own := 0, da := none, dn := 0, dc := 0 }) a9 (List.getElem?_set_self (by simpa using hl)) 10 (by omega) (u := .slice none 0 0) rfl
  rw [List.set_set] at a10
  exact a10
theorem AW.below (h : AW tF tG w0 w γ p F G b fs ins tk sv m) (hb : Below w.heap.size w w') : AW tF tG w0 w' γ p F G b fs ins tk sv m := by
  have h1 : Fr NoId γ γ w w' := Fr.of_below hb _ _
  exact ⟨h.old.fr h1 (fun h => h), h.brd.below hb, h.lock, h.len, h1.block_ h.f (fun h => h), h.fl, h1.block_ h.g (fun h => h), h.gl⟩
end
section
variable {tF tG : TypeId} {w0 w : World} {γ : Nat → Nat} {p F G : Nat} {b : BS} {fs : List FrS} {ins : List Bool} {tk sv : Int} {m : Nat}
theorem aw_enter (h : AW tF tG w0 w γ p F G b fs ins tk sv m) (hm : m ≤ 1000000) (t : Nat) (f : FrS) (hf : fs[t]? = some f) (o : Nat) (ho : o = 0 + 11 * t) :
    Calls Tryz.prog 26 #[.pointer (some ⟨p, 0, none⟩), .int .i64 t, .pointer (some ⟨F, o, none⟩)] w fun e w' => e = .returned (.bool (tsEnter M32 tk sv f.pc f.own).1) ∧
      ∃ γ' b', AW tF tG w0 w' γ' p F G b' (fs.set t (tsFr M32 tk sv f)) ins (tsEnter M32 tk sv f.pc f.own).2.1 sv (m + 1) := by
  obtain ⟨b', he, hl, hn⟩ := h.lock.enter (.inl rfl) t f.pc f.own
  have hq := tEnter32 w γ 1 2 p b h.brd h.lock.ok (by have := h.len; omega) t F o _ _ h.f h.fl (by decide) f.pc f.own (frs_get ho hf 3 (by omega)) (frs_get ho hf 9 (by omega))
  refine hq.mono ?_
  rw [he]
  rintro e w' ⟨rfl, γ', hB, hF, hfr⟩
  refine ⟨rfl, γ', b', h.old.fr hfr (by rintro (h | h) <;> cases h), hB, hl, by have := h.len; omega, ?_, (hfr.lab _ h.f.lt).trans h.fl, hfr.block_ h.g ?_, (hfr.lab _ h.g.lt).trans h.gl⟩
  · rw [frs_set (f' := { f with own := (tsEnter M32 tk sv f.pc f.own).2.2.2 }) ho hf (by omega) rfl] at hF
    rw [frs_set (f' := tsFr M32 tk sv f) ho (List.getElem?_set_self (List.getElem?_eq_some_iff.1 hf).1) (by omega) rfl, List.set_set] at hF
    exact hF
  · rw [h.gl]; rintro (h | h) <;> cases h
theorem aw_leave (h : AW tF tG w0 w γ p F G b fs ins tk sv m) (hm : m ≤ 1000000) (t : Int) :
    Calls Tryz.prog 28 #[.pointer (some ⟨p, 0, none⟩), .int .i64 t] w fun e w' => e = .returned (.tuple #[]) ∧ ∃ γ' b', AW tF tG w0 w' γ' p F G b' fs ins tk (addM M32 sv 1) (m + 1) := by
  have hl := h.lock.leave (.inl rfl) t
  refine (tLeave32 w γ 1 p b h.brd h.lock.ok (by have := h.len; omega) t).mono ?_
  rintro e w' ⟨rfl, γ', hB, hfr⟩
  refine ⟨rfl, γ', _, h.old.fr hfr (by rintro h; cases h), hB, hl.1, by have := h.len; omega, hfr.block_ h.f ?_, (hfr.lab _ h.f.lt).trans h.fl, hfr.block_ h.g ?_, (hfr.lab _ h.g.lt).trans h.gl⟩
  · rw [h.fl]; rintro h; cases h
  · rw [h.gl]; rintro h; cases h
end
end Go.Proofs.YtmjpdojecdnkjaaGreat
