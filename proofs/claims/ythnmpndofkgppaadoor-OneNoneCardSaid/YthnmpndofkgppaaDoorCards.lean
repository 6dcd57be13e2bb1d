/-
  DERIVED. GIVEN WITH THE SEED: THE CARDS: each row of YthnmpndofkgppaaDoorRows.lean that lists a variable, with what it lists TIED to the program's text (the seventh form; the later family's looks); each row that meets fmt, with fmt's text TOLD by the authors' own Lean function (tested against real Go, not proved from fmt's source: count such statements apart). THE CARD IS WHAT COUNTS. Prove the row's statement (the work); the ties are given (YthnmpndofkgppaaDoorTie.lean); close each card by the builder's one call (the guide's Derived/Test/ToyasCard.lean, 'card_holds'). Laid BY PROGRAM, IN A SANDBOX (cutbox-door.mjs). By AI agents, Wed Nov 11 2026. No macro, syntax, notation, axiom, sorry.
-/
import Derived.Test.YthnmpndofkgppaaDoorRows
import GoSem.ClaimSeven
namespace Go.Proofs.YthnmpndofkgppaaDoor
namespace Rows

/-- THE TIED CARD OF 'sakialaw11.LayoutNumbers'. -/
def layoutNumbersCard : Claim7 := { stood := { row := layoutNumbersRow, standIns := [], harness := (true, "f11198f1ea9862dff2848deb0090f0ca23c20006f60ed9d990f8c9374e2ad602"), looks := false }, kinds := [], alts := [], laidByText := true, laidKinds := [.data, .data, .data], laidTests := true, laidLooks := .later }
def LayoutNumbersCardSaid : Prop := Claim7.holds Tryd.pinned (.plain (OpenSpec.ofChange layoutNumbersSpec)) layoutNumbersCard

/-- THE TIED CARD OF 'sakialaw16.GateBetween'. -/
def gateBetweenCard : Claim7 := { stood := { row := gateBetweenRow, standIns := [], harness := (true, "f11198f1ea9862dff2848deb0090f0ca23c20006f60ed9d990f8c9374e2ad602"), looks := false }, kinds := [], alts := [], laidByText := true, laidKinds := [.data], laidTests := true, laidLooks := .later }
def GateBetweenCardSaid : Prop := Claim7.holds Tryd.pinned (.plain (OpenSpec.ofChange gateBetweenSpec)) gateBetweenCard

/-- THE TIED CARD OF 'sakialaw16.GateNone'. -/
def gateNoneCard : Claim7 := { stood := { row := gateNoneRow, standIns := [], harness := (true, "f11198f1ea9862dff2848deb0090f0ca23c20006f60ed9d990f8c9374e2ad602"), looks := false }, kinds := [], alts := [], laidByText := true, laidKinds := [.data], laidTests := true, laidLooks := .later }
def GateNoneCardSaid : Prop := Claim7.holds Tryd.pinned (.plain (OpenSpec.ofChange gateNoneSpec)) gateNoneCard

/-- THE TIED CARD OF 'sakialaw11.LayoutTells'. -/
def layoutTellsCard : Claim7 := { stood := { row := layoutTellsRow, standIns := [], harness := (true, "f11198f1ea9862dff2848deb0090f0ca23c20006f60ed9d990f8c9374e2ad602"), looks := false }, kinds := [], alts := [], laidByText := true, laidKinds := [.data, .data, .data], laidTests := true, laidLooks := .later }
def LayoutTellsCardSaid : Prop := Claim7.holds Tryd.pinned (.plain (OpenSpec.ofChange layoutTellsSpec)) layoutTellsCard

/-- THE TIED CARD OF 'sakialaw19.OneAlone'. -/
def oneAloneCard : Claim7 := { stood := { row := oneAloneRow, standIns := [], harness := (true, "f11198f1ea9862dff2848deb0090f0ca23c20006f60ed9d990f8c9374e2ad602"), looks := false }, kinds := [], alts := [], laidByText := true, laidKinds := [.data], laidTests := true, laidLooks := .later }
def OneAloneCardSaid : Prop := Claim7.holds Tryd.pinned (.plain (OpenSpec.ofChange oneAloneSpec)) oneAloneCard

/-- THE TIED CARD OF 'sakialaw11.LayoutNone'. -/
def layoutNoneCard : Claim7 := { stood := { row := layoutNoneRow, standIns := [], harness := (true, "f11198f1ea9862dff2848deb0090f0ca23c20006f60ed9d990f8c9374e2ad602"), looks := false }, kinds := [], alts := [], laidByText := true, laidKinds := [.data, .data, .data], laidTests := true, laidLooks := .later }
def LayoutNoneCardSaid : Prop := Claim7.holds Tryd.pinned (.plain (OpenSpec.ofChange layoutNoneSpec)) layoutNoneCard

/-- THE TIED CARD OF 'sakialaw19.OneNone'. -/
def oneNoneCard : Claim7 := { stood := { row := oneNoneRow, standIns := [], harness := (true, "f11198f1ea9862dff2848deb0090f0ca23c20006f60ed9d990f8c9374e2ad602"), looks := false }, kinds := [], alts := [], laidByText := true, laidKinds := [.data], laidTests := true, laidLooks := .later }
def OneNoneCardSaid : Prop := Claim7.holds Tryd.pinned (.plain (OpenSpec.ofChange oneNoneSpec)) oneNoneCard

/-- THE SECOND FORM's CARD OF 'sakialaw11.LayoutNumbers'. -/
def layoutNumbersUptoCard : Claim7 := { stood := { row := layoutNumbersUptoRow, standIns := [], harness := (true, "f11198f1ea9862dff2848deb0090f0ca23c20006f60ed9d990f8c9374e2ad602"), looks := false }, kinds := [], alts := [], laidByText := true, laidKinds := [.data, .data, .data], laidTests := true, laidLooks := .later }
def LayoutNumbersUptoCardSaid : Prop := Claim7.holds Tryd.pinned (.plain (OpenSpec.upto layoutNumbersSpec)) layoutNumbersUptoCard

/-- THE SECOND FORM's CARD OF 'sakialaw16.GateBetween'. -/
def gateBetweenUptoCard : Claim7 := { stood := { row := gateBetweenUptoRow, standIns := [], harness := (true, "f11198f1ea9862dff2848deb0090f0ca23c20006f60ed9d990f8c9374e2ad602"), looks := false }, kinds := [], alts := [], laidByText := true, laidKinds := [.data], laidTests := true, laidLooks := .later }
def GateBetweenUptoCardSaid : Prop := Claim7.holds Tryd.pinned (.plain (OpenSpec.upto gateBetweenSpec)) gateBetweenUptoCard

/-- THE SECOND FORM's CARD OF 'sakialaw16.GateNone'. -/
def gateNoneUptoCard : Claim7 := { stood := { row := gateNoneUptoRow, standIns := [], harness := (true, "f11198f1ea9862dff2848deb0090f0ca23c20006f60ed9d990f8c9374e2ad602"), looks := false }, kinds := [], alts := [], laidByText := true, laidKinds := [.data], laidTests := true, laidLooks := .later }
def GateNoneUptoCardSaid : Prop := Claim7.holds Tryd.pinned (.plain (OpenSpec.upto gateNoneSpec)) gateNoneUptoCard

/-- THE SECOND FORM's CARD OF 'sakialaw11.LayoutTells'. -/
def layoutTellsUptoCard : Claim7 := { stood := { row := layoutTellsUptoRow, standIns := [], harness := (true, "f11198f1ea9862dff2848deb0090f0ca23c20006f60ed9d990f8c9374e2ad602"), looks := false }, kinds := [], alts := [], laidByText := true, laidKinds := [.data, .data, .data], laidTests := true, laidLooks := .later }
def LayoutTellsUptoCardSaid : Prop := Claim7.holds Tryd.pinned (.plain (OpenSpec.upto layoutTellsSpec)) layoutTellsUptoCard

/-- THE SECOND FORM's CARD OF 'sakialaw19.OneAlone'. -/
def oneAloneUptoCard : Claim7 := { stood := { row := oneAloneUptoRow, standIns := [], harness := (true, "f11198f1ea9862dff2848deb0090f0ca23c20006f60ed9d990f8c9374e2ad602"), looks := false }, kinds := [], alts := [], laidByText := true, laidKinds := [.data], laidTests := true, laidLooks := .later }
def OneAloneUptoCardSaid : Prop := Claim7.holds Tryd.pinned (.plain (OpenSpec.upto oneAloneSpec)) oneAloneUptoCard

/-- THE SECOND FORM's CARD OF 'sakialaw11.LayoutNone'. -/
def layoutNoneUptoCard : Claim7 := { stood := { row := layoutNoneUptoRow, standIns := [], harness := (true, "f11198f1ea9862dff2848deb0090f0ca23c20006f60ed9d990f8c9374e2ad602"), looks := false }, kinds := [], alts := [], laidByText := true, laidKinds := [.data, .data, .data], laidTests := true, laidLooks := .later }
def LayoutNoneUptoCardSaid : Prop := Claim7.holds Tryd.pinned (.plain (OpenSpec.upto layoutNoneSpec)) layoutNoneUptoCard

/-- THE SECOND FORM's CARD OF 'sakialaw19.OneNone'. -/
def oneNoneUptoCard : Claim7 := { stood := { row := oneNoneUptoRow, standIns := [], harness := (true, "f11198f1ea9862dff2848deb0090f0ca23c20006f60ed9d990f8c9374e2ad602"), looks := false }, kinds := [], alts := [], laidByText := true, laidKinds := [.data], laidTests := true, laidLooks := .later }
def OneNoneUptoCardSaid : Prop := Claim7.holds Tryd.pinned (.plain (OpenSpec.upto oneNoneSpec)) oneNoneUptoCard
end Rows
end Go.Proofs.YthnmpndofkgppaaDoor
