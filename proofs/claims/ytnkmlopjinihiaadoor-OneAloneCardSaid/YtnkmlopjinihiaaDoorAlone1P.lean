/- A sequencer of one producer, for the harness of '..Alone': its law, and its contracts with a state that is in order. -/
import Derived.Test.YtnkmlopjinihiaaDoorAloneP
import Derived.Test.YtnkmlopjinihiaaDoorSeqH
import Derived.Test.YtnkmlopjinihiaaDoorSeqOne
import Derived.Test.YtnkmlopjinihiaaDoorSeqNil
namespace Go.Proofs.YtnkmlopjinihiaaDoor
open Go.RowKit
set_option linter.unusedVariables false
set_option linter.unusedSimpArgs false

theorem alone_conf1 {cp st : Int} {N : Nat} (hc : Cap2 cp) (hN : 1 ≤ N ∧ N ≤ 6) (A : Option Addr) (c : Nat) : CfOk ⟨1, 64, cp, 1, st, A, N, c⟩ (List.replicate N []) :=
  ⟨⟨Int.le_refl 1, show (1 : Int) ≤ 5 by decide⟩, .inr rfl, hc, ⟨Int.le_refl 1, show (1 : Int) ≤ 4 by decide⟩, fun _ => rfl, upOk_nils hN⟩
theorem alone1_is {cp st : Int} {N c : Nat} {A EA : Option Addr} {EC : Nat} (hc : Cap2 cp) (h16 : cp ≤ 16) (hN : 1 ≤ N ∧ N ≤ 6) (hst : 0 ≤ st ∧ st ≤ 18446744073709551615) :
    ∃ (Rest : Int → Sq1 → Prop) (CP PP TP : Int → Int → Nat → Sq1 → FrS → Prop) (Tk Pd : Int → Int → Sq1 → Prop) (GP : Int → Nat → Sq1 → Prop),
      Alone Sq1 M64 cp N (4 * cp.toNat + N + 8) (fun s => s.b) (fun s b => { s with b := b }) (fun s f => claim1 M64 (qA cp st A N c EA EC) 0 s f) (fun s f => publish1 M64 (qA cp st A N c EA EC) 0 s f) (fun s f => tip1 (qA cp st A N c EA EC) 1 s f) (fun m s => St1 M64 (qA cp st A N c EA EC) m s) Rest CP PP TP Tk Pd GP
      ∧ Rest st (sA cp st A N c) ∧ St1 M64 (qA cp st A N c EA EC) 0 (sA cp st A N c) := by
  have hcut : cutM M64 st = st := by unfold cutM M64; omega
  have hR := rest_start (st := st) (c := c) (A := A) (EA := EA) (EC := EC) hc hN
  rw [hcut] at hR
  exact ⟨_, _, _, _, _, _, _, alone1 hc hN, hR, newBS_fit ⟨1, 64, cp, 1, st, A, N, c⟩ (alone_conf1 hc hN A c) (by simp), cutM_in64 _, Nat.le_refl _, Nat.le_refl _, endsP_len _⟩
section
variable {w0 w : World} {γ0 γ : Nat → Nat} {S : Nat → Prop} {R : List It} {P : QP} {q : SqC} {s : Sq1} {f : FrS} {m : Nat}
theorem q1s_claim64 (h : Q164 w0 γ0 S R P q s f w γ) (hs : St1 M64 q m s) (hm : m ≤ 400000) (hf : FOk M64 f) (t : Int) :
    Calls Tryd.prog 52 #[.pointer (some ⟨P.g, 0, none⟩), .int .i64 t, .pointer (some ⟨P.fb, P.o, none⟩)] w (Q1End64 w0 γ0 S R P q (claim1 M64 q t s f)) :=
  q1_claim64 h hs.fit (by have := hs.log; omega) (by have := hs.ev; omega) (by have := hs.ends; omega) hf.from_ hs.next t
theorem q1s_publish64 (h : Q164 w0 γ0 S R P q s f w γ) (hs : St1 M64 q m s) (hm : m ≤ 400000) (hf : FOk M64 f) (t : Int) :
    Calls Tryd.prog 53 #[.pointer (some ⟨P.g, 0, none⟩), .int .i64 t, .pointer (some ⟨P.fb, P.o, none⟩)] w (Q1End64 w0 γ0 S R P q (publish1 M64 q t s f)) :=
  q1_publish64 h hs.fit (by have := hs.log; omega) (by have := hs.ev; omega) (by have := hs.ends; omega) hf.from_ t
theorem q1s_tip64 (h : Q164 w0 γ0 S R P q s f w γ) (hs : St1 M64 q m s) (hm : m ≤ 400000) (hf : FOk M64 f) (t : Int) :
    Calls Tryd.prog 54 #[.pointer (some ⟨P.g, 0, none⟩), .int .i64 t, .pointer (some ⟨P.fb, P.o, none⟩)] w (Q1End64 w0 γ0 S R P q (tip1 q t s f)) :=
  q1_tip64 h hs.fit (by have := hs.log; omega) t
end
end Go.Proofs.YtnkmlopjinihiaaDoor
