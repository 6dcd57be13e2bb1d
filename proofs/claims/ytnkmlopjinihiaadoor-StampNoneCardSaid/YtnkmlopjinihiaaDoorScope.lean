/- A scope in which the run jumps once, forwards. No program is walked. -/
import Derived.ScopeJumps
import Derived.WalkMore
import Derived.WalkKit
namespace Go.Proofs.YtnkmlopjinihiaaDoor
open Go.RowKit
theorem wp_scope_once {P : Program} {c rest : Code} {Q : Exit → Act → World → Prop} {a : Act} {w : World} (l : Nat) (hf : findLabel c l = some rest)
    (h : c.wp P (Exit.jump l (fun a w => rest.wp P (Exit.noGoto Q) a w) Q) a w) : (Code.scope c).wp P Q a w :=
  wp_scope_jumps l _ (fun _ _ => 0) hf h (fun a w hJ => Code.wp_mono (fun e a w he => by cases e <;> first | exact he | exact (he : False).elim) hJ)
end Go.Proofs.YtnkmlopjinihiaaDoor
