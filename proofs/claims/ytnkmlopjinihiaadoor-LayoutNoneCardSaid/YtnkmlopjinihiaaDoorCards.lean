/-
  DERIVED. GIVEN WITH THE SEED: THE CARDS: each row of YtnkmlopjinihiaaDoorRows.lean that lists a variable, with what it lists TIED to the program's text (the seventh form; the later family's looks); each row that meets fmt, with fmt's text TOLD by the authors' own Lean function (tested against real Go, not proved from fmt's source: count such statements apart). THE CARD IS WHAT COUNTS. Prove the row's statement (the work); the ties are given (YtnkmlopjinihiaaDoorTie.lean); close each card by the builder's one call (the guide's Derived/Test/ToyasCard.lean, 'card_holds'). Laid BY PROGRAM, IN A SANDBOX (cutbox-door.mjs). By AI agents, Wed Nov 11 2026. No macro, syntax, notation, axiom, sorry.
-/
import Derived.Test.YtnkmlopjinihiaaDoorRows
import GoSem.ClaimSeven
namespace Go.Proofs.YtnkmlopjinihiaaDoor
namespace Rows

/-- THE TIED CARD OF 'sakialaw11.LayoutFinds'. -/
def layoutFindsCard : Claim7 := { stood := { row := layoutFindsRow, standIns := [], harness := (true, "4376cf6029d321a359573101c50e081826190c4af0a69c4ae7ef2a2f2687f90b"), looks := false }, kinds := [], alts := [], laidByText := true, laidKinds := [.data, .data, .data], laidTests := true, laidLooks := .later }
def LayoutFindsCardSaid : Prop := Claim7.holds Tryd.pinned (.plain (OpenSpec.ofChange layoutFindsSpec)) layoutFindsCard

/-- THE TIED CARD OF 'sakialaw11.LayoutNumbers'. -/
def layoutNumbersCard : Claim7 := { stood := { row := layoutNumbersRow, standIns := [], harness := (true, "4376cf6029d321a359573101c50e081826190c4af0a69c4ae7ef2a2f2687f90b"), looks := false }, kinds := [], alts := [], laidByText := true, laidKinds := [.data, .data, .data], laidTests := true, laidLooks := .later }
def LayoutNumbersCardSaid : Prop := Claim7.holds Tryd.pinned (.plain (OpenSpec.ofChange layoutNumbersSpec)) layoutNumbersCard

/-- THE TIED CARD OF 'sakialaw16.GateBetween'. -/
def gateBetweenCard : Claim7 := { stood := { row := gateBetweenRow, standIns := [], harness := (true, "4376cf6029d321a359573101c50e081826190c4af0a69c4ae7ef2a2f2687f90b"), looks := false }, kinds := [], alts := [], laidByText := true, laidKinds := [.data], laidTests := true, laidLooks := .later }
def GateBetweenCardSaid : Prop := Claim7.holds Tryd.pinned (.plain (OpenSpec.ofChange gateBetweenSpec)) gateBetweenCard

/-- THE TIED CARD OF 'sakialaw16.GateNone'. -/
def gateNoneCard : Claim7 := { stood := { row := gateNoneRow, standIns := [], harness := (true, "4376cf6029d321a359573101c50e081826190c4af0a69c4ae7ef2a2f2687f90b"), looks := false }, kinds := [], alts := [], laidByText := true, laidKinds := [.data], laidTests := true, laidLooks := .later }
def GateNoneCardSaid : Prop := Claim7.holds Tryd.pinned (.plain (OpenSpec.ofChange gateNoneSpec)) gateNoneCard

/-- THE TIED CARD OF 'sakialaw11.LayoutTells'. -/
def layoutTellsCard : Claim7 := { stood := { row := layoutTellsRow, standIns := [], harness := (true, "4376cf6029d321a359573101c50e081826190c4af0a69c4ae7ef2a2f2687f90b"), looks := false }, kinds := [], alts := [], laidByText := true, laidKinds := [.data, .data, .data], laidTests := true, laidLooks := .later }
def LayoutTellsCardSaid : Prop := Claim7.holds Tryd.pinned (.plain (OpenSpec.ofChange layoutTellsSpec)) layoutTellsCard

/-- THE TIED CARD OF 'sakialaw19.OneAlone'. -/
def oneAloneCard : Claim7 := { stood := { row := oneAloneRow, standIns := [], harness := (true, "4376cf6029d321a359573101c50e081826190c4af0a69c4ae7ef2a2f2687f90b"), looks := false }, kinds := [], alts := [], laidByText := true, laidKinds := [.data], laidTests := true, laidLooks := .later }
def OneAloneCardSaid : Prop := Claim7.holds Tryd.pinned (.plain (OpenSpec.ofChange oneAloneSpec)) oneAloneCard

/-- THE TIED CARD OF 'sakialaw11.LayoutNone'. -/
def layoutNoneCard : Claim7 := { stood := { row := layoutNoneRow, standIns := [], harness := (true, "4376cf6029d321a359573101c50e081826190c4af0a69c4ae7ef2a2f2687f90b"), looks := false }, kinds := [], alts := [], laidByText := true, laidKinds := [.data, .data, .data], laidTests := true, laidLooks := .later }
def LayoutNoneCardSaid : Prop := Claim7.holds Tryd.pinned (.plain (OpenSpec.ofChange layoutNoneSpec)) layoutNoneCard

/-- THE TIED CARD OF 'sakialaw22.StampNone'. -/
def stampNoneCard : Claim7 := { stood := { row := stampNoneRow, standIns := [], harness := (true, "4376cf6029d321a359573101c50e081826190c4af0a69c4ae7ef2a2f2687f90b"), looks := false }, kinds := [], alts := [], laidByText := true, laidKinds := [.data], laidTests := true, laidLooks := .later }
def StampNoneCardSaid : Prop := Claim7.holds Tryd.pinned (.plain (OpenSpec.ofChange stampNoneSpec)) stampNoneCard

/-- THE TIED CARD OF 'sakialaw21.FaaNone'. -/
def faaNoneCard : Claim7 := { stood := { row := faaNoneRow, standIns := [], harness := (true, "4376cf6029d321a359573101c50e081826190c4af0a69c4ae7ef2a2f2687f90b"), looks := false }, kinds := [], alts := [], laidByText := true, laidKinds := [.data], laidTests := true, laidLooks := .later }
def FaaNoneCardSaid : Prop := Claim7.holds Tryd.pinned (.plain (OpenSpec.ofChange faaNoneSpec)) faaNoneCard

/-- THE TIED CARD OF 'sakialaw20.CasNone'. -/
def casNoneCard : Claim7 := { stood := { row := casNoneRow, standIns := [], harness := (true, "4376cf6029d321a359573101c50e081826190c4af0a69c4ae7ef2a2f2687f90b"), looks := false }, kinds := [], alts := [], laidByText := true, laidKinds := [.data], laidTests := true, laidLooks := .later }
def CasNoneCardSaid : Prop := Claim7.holds Tryd.pinned (.plain (OpenSpec.ofChange casNoneSpec)) casNoneCard

/-- THE TIED CARD OF 'sakialaw23.LockNone'. -/
def lockNoneCard : Claim7 := { stood := { row := lockNoneRow, standIns := [], harness := (true, "4376cf6029d321a359573101c50e081826190c4af0a69c4ae7ef2a2f2687f90b"), looks := false }, kinds := [], alts := [], laidByText := true, laidKinds := [.data], laidTests := true, laidLooks := .later }
def LockNoneCardSaid : Prop := Claim7.holds Tryd.pinned (.plain (OpenSpec.ofChange lockNoneSpec)) lockNoneCard

/-- THE SECOND FORM's CARD OF 'sakialaw11.LayoutFinds'. -/
def layoutFindsUptoCard : Claim7 := { stood := { row := layoutFindsUptoRow, standIns := [], harness := (true, "4376cf6029d321a359573101c50e081826190c4af0a69c4ae7ef2a2f2687f90b"), looks := false }, kinds := [], alts := [], laidByText := true, laidKinds := [.data, .data, .data], laidTests := true, laidLooks := .later }
def LayoutFindsUptoCardSaid : Prop := Claim7.holds Tryd.pinned (.plain (OpenSpec.upto layoutFindsSpec)) layoutFindsUptoCard

/-- THE SECOND FORM's CARD OF 'sakialaw11.LayoutNumbers'. -/
def layoutNumbersUptoCard : Claim7 := { stood := { row := layoutNumbersUptoRow, standIns := [], harness := (true, "4376cf6029d321a359573101c50e081826190c4af0a69c4ae7ef2a2f2687f90b"), looks := false }, kinds := [], alts := [], laidByText := true, laidKinds := [.data, .data, .data], laidTests := true, laidLooks := .later }
def LayoutNumbersUptoCardSaid : Prop := Claim7.holds Tryd.pinned (.plain (OpenSpec.upto layoutNumbersSpec)) layoutNumbersUptoCard

/-- THE SECOND FORM's CARD OF 'sakialaw16.GateBetween'. -/
def gateBetweenUptoCard : Claim7 := { stood := { row := gateBetweenUptoRow, standIns := [], harness := (true, "4376cf6029d321a359573101c50e081826190c4af0a69c4ae7ef2a2f2687f90b"), looks := false }, kinds := [], alts := [], laidByText := true, laidKinds := [.data], laidTests := true, laidLooks := .later }
def GateBetweenUptoCardSaid : Prop := Claim7.holds Tryd.pinned (.plain (OpenSpec.upto gateBetweenSpec)) gateBetweenUptoCard

/-- THE SECOND FORM's CARD OF 'sakialaw16.GateNone'. -/
def gateNoneUptoCard : Claim7 := { stood := { row := gateNoneUptoRow, standIns := [], harness := (true, "4376cf6029d321a359573101c50e081826190c4af0a69c4ae7ef2a2f2687f90b"), looks := false }, kinds := [], alts := [], laidByText := true, laidKinds := [.data], laidTests := true, laidLooks := .later }
def GateNoneUptoCardSaid : Prop := Claim7.holds Tryd.pinned (.plain (OpenSpec.upto gateNoneSpec)) gateNoneUptoCard

/-- THE SECOND FORM's CARD OF 'sakialaw11.LayoutTells'. -/
def layoutTellsUptoCard : Claim7 := { stood := { row := layoutTellsUptoRow, standIns := [], harness := (true, "4376cf6029d321a359573101c50e081826190c4af0a69c4ae7ef2a2f2687f90b"), looks := false }, kinds := [], alts := [], laidByText := true, laidKinds := [.data, .data, .data], laidTests := true, laidLooks := .later }
def LayoutTellsUptoCardSaid : Prop := Claim7.holds Tryd.pinned (.plain (OpenSpec.upto layoutTellsSpec)) layoutTellsUptoCard

/-- THE SECOND FORM's CARD OF 'sakialaw19.OneAlone'. -/
def oneAloneUptoCard : Claim7 := { stood := { row := oneAloneUptoRow, standIns := [], harness := (true, "4376cf6029d321a359573101c50e081826190c4af0a69c4ae7ef2a2f2687f90b"), looks := false }, kinds := [], alts := [], laidByText := true, laidKinds := [.data], laidTests := true, laidLooks := .later }
def OneAloneUptoCardSaid : Prop := Claim7.holds Tryd.pinned (.plain (OpenSpec.upto oneAloneSpec)) oneAloneUptoCard

/-- THE SECOND FORM's CARD OF 'sakialaw11.LayoutNone'. -/
def layoutNoneUptoCard : Claim7 := { stood := { row := layoutNoneUptoRow, standIns := [], harness := (true, "4376cf6029d321a359573101c50e081826190c4af0a69c4ae7ef2a2f2687f90b"), looks := false }, kinds := [], alts := [], laidByText := true, laidKinds := [.data, .data, .data], laidTests := true, laidLooks := .later }
def LayoutNoneUptoCardSaid : Prop := Claim7.holds Tryd.pinned (.plain (OpenSpec.upto layoutNoneSpec)) layoutNoneUptoCard

/-- THE SECOND FORM's CARD OF 'sakialaw22.StampNone'. -/
def stampNoneUptoCard : Claim7 := { stood := { row := stampNoneUptoRow, standIns := [], harness := (true, "4376cf6029d321a359573101c50e081826190c4af0a69c4ae7ef2a2f2687f90b"), looks := false }, kinds := [], alts := [], laidByText := true, laidKinds := [.data], laidTests := true, laidLooks := .later }
def StampNoneUptoCardSaid : Prop := Claim7.holds Tryd.pinned (.plain (OpenSpec.upto stampNoneSpec)) stampNoneUptoCard

/-- THE SECOND FORM's CARD OF 'sakialaw21.FaaNone'. -/
def faaNoneUptoCard : Claim7 := { stood := { row := faaNoneUptoRow, standIns := [], harness := (true, "4376cf6029d321a359573101c50e081826190c4af0a69c4ae7ef2a2f2687f90b"), looks := false }, kinds := [], alts := [], laidByText := true, laidKinds := [.data], laidTests := true, laidLooks := .later }
def FaaNoneUptoCardSaid : Prop := Claim7.holds Tryd.pinned (.plain (OpenSpec.upto faaNoneSpec)) faaNoneUptoCard

/-- THE SECOND FORM's CARD OF 'sakialaw20.CasNone'. -/
def casNoneUptoCard : Claim7 := { stood := { row := casNoneUptoRow, standIns := [], harness := (true, "4376cf6029d321a359573101c50e081826190c4af0a69c4ae7ef2a2f2687f90b"), looks := false }, kinds := [], alts := [], laidByText := true, laidKinds := [.data], laidTests := true, laidLooks := .later }
def CasNoneUptoCardSaid : Prop := Claim7.holds Tryd.pinned (.plain (OpenSpec.upto casNoneSpec)) casNoneUptoCard

/-- THE SECOND FORM's CARD OF 'sakialaw23.LockNone'. -/
def lockNoneUptoCard : Claim7 := { stood := { row := lockNoneUptoRow, standIns := [], harness := (true, "4376cf6029d321a359573101c50e081826190c4af0a69c4ae7ef2a2f2687f90b"), looks := false }, kinds := [], alts := [], laidByText := true, laidKinds := [.data], laidTests := true, laidLooks := .later }
def LockNoneUptoCardSaid : Prop := Claim7.holds Tryd.pinned (.plain (OpenSpec.upto lockNoneSpec)) lockNoneUptoCard
end Rows
end Go.Proofs.YtnkmlopjinihiaaDoor
