/-
  DERIVED. GIVEN WITH THE SEED: THE CARDS: each row of YtnkmlopjinihiaaGreatDoorRows.lean that lists a variable, with what it lists TIED to the program's text (the seventh form; the later family's looks); each row that meets fmt, with fmt's text TOLD by the authors' own Lean function (tested against real Go, not proved from fmt's source: count such statements apart). THE CARD IS WHAT COUNTS. Prove the row's statement (the work); the ties are given (YtnkmlopjinihiaaGreatDoorTie.lean); close each card by the builder's one call (the guide's Derived/Test/ToyasCard.lean, 'card_holds'). Laid BY PROGRAM, IN A SANDBOX (cutbox-door.mjs). By AI agents, Wed Nov 11 2026. No macro, syntax, notation, axiom, sorry.
-/
import Derived.Test.YtnkmlopjinihiaaGreatDoorRows
import GoSem.ClaimSeven
namespace Go.Proofs.YtnkmlopjinihiaaGreatDoor
namespace Rows

/-- THE TIED CARD OF 'sakialaw22.StampAlone'. -/
def stampAloneCard : Claim7 := { stood := { row := stampAloneRow, standIns := [], harness := (true, "a7122ff995b782012175b141287c947010577f682dad8507337cf8c09f90d78c"), looks := false }, kinds := [], alts := [], laidByText := true, laidKinds := [.data], laidTests := true, laidLooks := .later }
def StampAloneCardSaid : Prop := Claim7.holds Tryz.pinned (.plain (OpenSpec.ofChange stampAloneSpec)) stampAloneCard

/-- THE TIED CARD OF 'sakialaw21.FaaAlone'. -/
def faaAloneCard : Claim7 := { stood := { row := faaAloneRow, standIns := [], harness := (true, "a7122ff995b782012175b141287c947010577f682dad8507337cf8c09f90d78c"), looks := false }, kinds := [], alts := [], laidByText := true, laidKinds := [.data], laidTests := true, laidLooks := .later }
def FaaAloneCardSaid : Prop := Claim7.holds Tryz.pinned (.plain (OpenSpec.ofChange faaAloneSpec)) faaAloneCard

/-- THE TIED CARD OF 'sakialaw20.CasAlone'. -/
def casAloneCard : Claim7 := { stood := { row := casAloneRow, standIns := [], harness := (true, "a7122ff995b782012175b141287c947010577f682dad8507337cf8c09f90d78c"), looks := false }, kinds := [], alts := [], laidByText := true, laidKinds := [.data], laidTests := true, laidLooks := .later }
def CasAloneCardSaid : Prop := Claim7.holds Tryz.pinned (.plain (OpenSpec.ofChange casAloneSpec)) casAloneCard

/-- THE TIED CARD OF 'sakialaw23.LockAlone'. -/
def lockAloneCard : Claim7 := { stood := { row := lockAloneRow, standIns := [], harness := (true, "a7122ff995b782012175b141287c947010577f682dad8507337cf8c09f90d78c"), looks := false }, kinds := [], alts := [], laidByText := true, laidKinds := [.data], laidTests := true, laidLooks := .later }
def LockAloneCardSaid : Prop := Claim7.holds Tryz.pinned (.plain (OpenSpec.ofChange lockAloneSpec)) lockAloneCard

/-- THE SECOND FORM's CARD OF 'sakialaw22.StampAlone'. -/
def stampAloneUptoCard : Claim7 := { stood := { row := stampAloneUptoRow, standIns := [], harness := (true, "a7122ff995b782012175b141287c947010577f682dad8507337cf8c09f90d78c"), looks := false }, kinds := [], alts := [], laidByText := true, laidKinds := [.data], laidTests := true, laidLooks := .later }
def StampAloneUptoCardSaid : Prop := Claim7.holds Tryz.pinned (.plain (OpenSpec.upto stampAloneSpec)) stampAloneUptoCard

/-- THE SECOND FORM's CARD OF 'sakialaw21.FaaAlone'. -/
def faaAloneUptoCard : Claim7 := { stood := { row := faaAloneUptoRow, standIns := [], harness := (true, "a7122ff995b782012175b141287c947010577f682dad8507337cf8c09f90d78c"), looks := false }, kinds := [], alts := [], laidByText := true, laidKinds := [.data], laidTests := true, laidLooks := .later }
def FaaAloneUptoCardSaid : Prop := Claim7.holds Tryz.pinned (.plain (OpenSpec.upto faaAloneSpec)) faaAloneUptoCard

/-- THE SECOND FORM's CARD OF 'sakialaw20.CasAlone'. -/
def casAloneUptoCard : Claim7 := { stood := { row := casAloneUptoRow, standIns := [], harness := (true, "a7122ff995b782012175b141287c947010577f682dad8507337cf8c09f90d78c"), looks := false }, kinds := [], alts := [], laidByText := true, laidKinds := [.data], laidTests := true, laidLooks := .later }
def CasAloneUptoCardSaid : Prop := Claim7.holds Tryz.pinned (.plain (OpenSpec.upto casAloneSpec)) casAloneUptoCard

/-- THE SECOND FORM's CARD OF 'sakialaw23.LockAlone'. -/
def lockAloneUptoCard : Claim7 := { stood := { row := lockAloneUptoRow, standIns := [], harness := (true, "a7122ff995b782012175b141287c947010577f682dad8507337cf8c09f90d78c"), looks := false }, kinds := [], alts := [], laidByText := true, laidKinds := [.data], laidTests := true, laidLooks := .later }
def LockAloneUptoCardSaid : Prop := Claim7.holds Tryz.pinned (.plain (OpenSpec.upto lockAloneSpec)) lockAloneUptoCard
end Rows
end Go.Proofs.YtnkmlopjinihiaaGreatDoor
