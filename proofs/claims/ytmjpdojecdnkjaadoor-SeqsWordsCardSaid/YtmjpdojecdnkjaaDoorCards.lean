/-
  DERIVED. GIVEN WITH THE SEED: THE CARDS: each row of YtmjpdojecdnkjaaDoorRows.lean that lists a variable, with what it lists TIED to the program's text (the seventh form; the later family's looks); each row that meets fmt, with fmt's text TOLD by the authors' own Lean function (tested against real Go, not proved from fmt's source: count such statements apart). THE CARD IS WHAT COUNTS. Prove the row's statement (the work); the ties are given (YtmjpdojecdnkjaaDoorTie.lean); close each card by the builder's one call (the guide's Derived/Test/ToyasCard.lean, 'card_holds'). Laid BY PROGRAM, IN A SANDBOX (cutbox-door.mjs). By AI agents, Wed Nov 11 2026. No macro, syntax, notation, axiom, sorry.
-/
import Derived.Test.YtmjpdojecdnkjaaDoorRows
import GoSem.ClaimSeven
namespace Go.Proofs.YtmjpdojecdnkjaaDoor
namespace Rows

/-- THE TIED CARD OF 'sakialaw24.SeqsWords'. -/
def seqsWordsCard : Claim7 := { stood := { row := seqsWordsRow, standIns := [], harness := (true, "8d980e3cbf1016b0d797fe1b9d49fde5e810d3a51dbdba5a34ffab3bef1fd622"), looks := false }, kinds := [], alts := [], laidByText := true, laidKinds := [.data], laidTests := true, laidLooks := .later }
def SeqsWordsCardSaid : Prop := Claim7.holds Tryd.pinned (.plain (OpenSpec.ofChange seqsWordsSpec)) seqsWordsCard

/-- THE TIED CARD OF 'sakialaw11.LayoutFinds'. -/
def layoutFindsCard : Claim7 := { stood := { row := layoutFindsRow, standIns := [], harness := (true, "8d980e3cbf1016b0d797fe1b9d49fde5e810d3a51dbdba5a34ffab3bef1fd622"), looks := false }, kinds := [], alts := [], laidByText := true, laidKinds := [.data, .data, .data], laidTests := true, laidLooks := .later }
def LayoutFindsCardSaid : Prop := Claim7.holds Tryd.pinned (.plain (OpenSpec.ofChange layoutFindsSpec)) layoutFindsCard

/-- THE SECOND FORM's CARD OF 'sakialaw24.SeqsWords'. -/
def seqsWordsUptoCard : Claim7 := { stood := { row := seqsWordsUptoRow, standIns := [], harness := (true, "8d980e3cbf1016b0d797fe1b9d49fde5e810d3a51dbdba5a34ffab3bef1fd622"), looks := false }, kinds := [], alts := [], laidByText := true, laidKinds := [.data], laidTests := true, laidLooks := .later }
def SeqsWordsUptoCardSaid : Prop := Claim7.holds Tryd.pinned (.plain (OpenSpec.upto seqsWordsSpec)) seqsWordsUptoCard

/-- THE SECOND FORM's CARD OF 'sakialaw11.LayoutFinds'. -/
def layoutFindsUptoCard : Claim7 := { stood := { row := layoutFindsUptoRow, standIns := [], harness := (true, "8d980e3cbf1016b0d797fe1b9d49fde5e810d3a51dbdba5a34ffab3bef1fd622"), looks := false }, kinds := [], alts := [], laidByText := true, laidKinds := [.data, .data, .data], laidTests := true, laidLooks := .later }
def LayoutFindsUptoCardSaid : Prop := Claim7.holds Tryd.pinned (.plain (OpenSpec.upto layoutFindsSpec)) layoutFindsUptoCard
end Rows
end Go.Proofs.YtmjpdojecdnkjaaDoor
