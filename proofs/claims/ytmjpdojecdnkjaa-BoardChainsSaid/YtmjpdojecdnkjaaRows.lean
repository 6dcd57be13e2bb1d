/-
  No cell of these rows narrows 'for every input' (looked for: loops, veiled, ifaces, maps, wideKeys, modest, calm, conditions, laid).
  DERIVED. THE GIVEN ROWS OF THIS SEAT. 7 by the template 'for every input the law returns true; each argument reads behind the call as it read before'; 0 by the template 'total and deterministic' (their statements: YtmjpdojecdnkjaaTotals.lean).
  GIVEN WITH THE SEED: the statements are not yours to turn. If you find one false, say at which input.
  Laid BY PROGRAM, IN A SANDBOX (cutbox-rows.mjs): the forced cells as the released guide's own fill.sh prints them over the translation c7621c8f7cebaba5… (all of the seat's roots in one cut). By AI agents, Wed Nov 11 2026. No macro, syntax, notation, axiom, sorry.
-/
import Derived.Test.YtmjpdojecdnkjaaChecked
import GoSem.Claim
import GoSem.ClaimJoined
import GoSem.ClaimMapViews
import Derived.JoinedTies
import Derived.KernelRfl
namespace Go.Proofs.Ytmjpdojecdnkjaa
/- THE CELL 'sum', in the pinned program and in every row, IS THE sha256 OF THE DUMP (.gsa) THAT YtmjpdojecdnkjaaProg.lean LOADS. Nothing in Lean hashes anything: it is a label: what it is worth is what the hold of that sum in a sandbox is worth. -/
noncomputable def Try.pinned : Pinned := { name := "ytmjpdojecdnkjaa", sum := "c7621c8f7cebaba50495de5488fd7ec1140da353f1d0ac439c7d4a964e7b56b2", checked := Try.checked }
namespace Rows
def none {H : Type} : Left H := { results := [], args := [] }

/-- 'sakialaw16.GateFits': WHATEVER THE INPUT: true; the input reads as it did. -/
def gateFitsSpec : ChangeSpec := { name := "gateFits", fn := fun _ => fun
  | [d1, d2, d3] => { results := [.lit (.bool true)], args := [d1, d2, d3] }
  | _ => none }
def gateFitsRow : OpenClaim := { program := "ytmjpdojecdnkjaa", sum := "c7621c8f7cebaba50495de5488fd7ec1140da353f1d0ac439c7d4a964e7b56b2", func := "sakia/sakialaw16.GateFits", spec := "gateFits", apart := false }
def GateFitsSaid : Prop := gateFitsRow.holds Try.pinned (OpenSpec.ofChange gateFitsSpec)

/-- ITS FALSE NEIGHBOUR: 'it returns false'. Refute it at one input. -/
def gateFitsWrong : ChangeSpec := { name := "gateFits", fn := fun _ => fun
  | [d1, d2, d3] => { results := [.lit (.bool false)], args := [d1, d2, d3] }
  | _ => none }
def GateFitsWrongFalsely : Prop := gateFitsRow.holds Try.pinned (OpenSpec.ofChange gateFitsWrong)

/-- 'sakialaw18.TurnAlone': WHATEVER THE INPUT: true; the input reads as it did. -/
def turnAloneSpec : ChangeSpec := { name := "turnAlone", fn := fun _ => fun
  | [d] => { results := [.lit (.bool true)], args := [d] }
  | _ => none }
def turnAloneRow : OpenClaim := { program := "ytmjpdojecdnkjaa", sum := "c7621c8f7cebaba50495de5488fd7ec1140da353f1d0ac439c7d4a964e7b56b2", func := "sakia/sakialaw18.TurnAlone", spec := "turnAlone", unfollowed := true, recurses := true, apart := false }
def TurnAloneSaid : Prop := turnAloneRow.holds Try.pinned (OpenSpec.ofChange turnAloneSpec)

/-- ITS FALSE NEIGHBOUR: 'it returns false'. Refute it at one input. -/
def turnAloneWrong : ChangeSpec := { name := "turnAlone", fn := fun _ => fun
  | [d] => { results := [.lit (.bool false)], args := [d] }
  | _ => none }
def TurnAloneWrongFalsely : Prop := turnAloneRow.holds Try.pinned (OpenSpec.ofChange turnAloneWrong)

/-- 'sakialaw18.TurnComes': WHATEVER THE INPUT: true; the input reads as it did. -/
def turnComesSpec : ChangeSpec := { name := "turnComes", fn := fun _ => fun
  | [d] => { results := [.lit (.bool true)], args := [d] }
  | _ => none }
def turnComesRow : OpenClaim := { program := "ytmjpdojecdnkjaa", sum := "c7621c8f7cebaba50495de5488fd7ec1140da353f1d0ac439c7d4a964e7b56b2", func := "sakia/sakialaw18.TurnComes", spec := "turnComes", unfollowed := true, recurses := true, apart := false }
def TurnComesSaid : Prop := turnComesRow.holds Try.pinned (OpenSpec.ofChange turnComesSpec)

/-- ITS FALSE NEIGHBOUR: 'it returns false'. Refute it at one input. -/
def turnComesWrong : ChangeSpec := { name := "turnComes", fn := fun _ => fun
  | [d] => { results := [.lit (.bool false)], args := [d] }
  | _ => none }
def TurnComesWrongFalsely : Prop := turnComesRow.holds Try.pinned (OpenSpec.ofChange turnComesWrong)

/-- 'sakialaw18.TurnNone': WHATEVER THE INPUT: true; the input reads as it did. -/
def turnNoneSpec : ChangeSpec := { name := "turnNone", fn := fun _ => fun
  | [d1, d2, d3] => { results := [.lit (.bool true)], args := [d1, d2, d3] }
  | _ => none }
def turnNoneRow : OpenClaim := { program := "ytmjpdojecdnkjaa", sum := "c7621c8f7cebaba50495de5488fd7ec1140da353f1d0ac439c7d4a964e7b56b2", func := "sakia/sakialaw18.TurnNone", spec := "turnNone", unfollowed := true, recurses := true, apart := false }
def TurnNoneSaid : Prop := turnNoneRow.holds Try.pinned (OpenSpec.ofChange turnNoneSpec)

/-- ITS FALSE NEIGHBOUR: 'it returns false'. Refute it at one input. -/
def turnNoneWrong : ChangeSpec := { name := "turnNone", fn := fun _ => fun
  | [d1, d2, d3] => { results := [.lit (.bool false)], args := [d1, d2, d3] }
  | _ => none }
def TurnNoneWrongFalsely : Prop := turnNoneRow.holds Try.pinned (OpenSpec.ofChange turnNoneWrong)

/-- 'sakialaw17.MarkStays': WHATEVER THE INPUT: true; the input reads as it did. -/
def markStaysSpec : ChangeSpec := { name := "markStays", fn := fun _ => fun
  | [d1, d2, d3] => { results := [.lit (.bool true)], args := [d1, d2, d3] }
  | _ => none }
def markStaysRow : OpenClaim := { program := "ytmjpdojecdnkjaa", sum := "c7621c8f7cebaba50495de5488fd7ec1140da353f1d0ac439c7d4a964e7b56b2", func := "sakia/sakialaw17.MarkStays", spec := "markStays", unfollowed := true, recurses := true, apart := false }
def MarkStaysSaid : Prop := markStaysRow.holds Try.pinned (OpenSpec.ofChange markStaysSpec)

/-- ITS FALSE NEIGHBOUR: 'it returns false'. Refute it at one input. -/
def markStaysWrong : ChangeSpec := { name := "markStays", fn := fun _ => fun
  | [d1, d2, d3] => { results := [.lit (.bool false)], args := [d1, d2, d3] }
  | _ => none }
def MarkStaysWrongFalsely : Prop := markStaysRow.holds Try.pinned (OpenSpec.ofChange markStaysWrong)

/-- 'sakialaw17.MarkNone': WHATEVER THE INPUT: true; the input reads as it did. -/
def markNoneSpec : ChangeSpec := { name := "markNone", fn := fun _ => fun
  | [d1, d2, d3] => { results := [.lit (.bool true)], args := [d1, d2, d3] }
  | _ => none }
def markNoneRow : OpenClaim := { program := "ytmjpdojecdnkjaa", sum := "c7621c8f7cebaba50495de5488fd7ec1140da353f1d0ac439c7d4a964e7b56b2", func := "sakia/sakialaw17.MarkNone", spec := "markNone", unfollowed := true, recurses := true, apart := false }
def MarkNoneSaid : Prop := markNoneRow.holds Try.pinned (OpenSpec.ofChange markNoneSpec)

/-- ITS FALSE NEIGHBOUR: 'it returns false'. Refute it at one input. -/
def markNoneWrong : ChangeSpec := { name := "markNone", fn := fun _ => fun
  | [d1, d2, d3] => { results := [.lit (.bool false)], args := [d1, d2, d3] }
  | _ => none }
def MarkNoneWrongFalsely : Prop := markNoneRow.holds Try.pinned (OpenSpec.ofChange markNoneWrong)

/-- 'sakialaw12.BoardChains': WHATEVER THE INPUT: true; the input reads as it did. -/
def boardChainsSpec : ChangeSpec := { name := "boardChains", fn := fun _ => fun
  | [d1, d2] => { results := [.lit (.bool true)], args := [d1, d2] }
  | _ => none }
def boardChainsRow : OpenClaim := { program := "ytmjpdojecdnkjaa", sum := "c7621c8f7cebaba50495de5488fd7ec1140da353f1d0ac439c7d4a964e7b56b2", func := "sakia/sakialaw12.BoardChains", spec := "boardChains", unfollowed := true, recurses := true, apart := false }
def BoardChainsSaid : Prop := boardChainsRow.holds Try.pinned (OpenSpec.ofChange boardChainsSpec)

/-- ITS FALSE NEIGHBOUR: 'it returns false'. Refute it at one input. -/
def boardChainsWrong : ChangeSpec := { name := "boardChains", fn := fun _ => fun
  | [d1, d2] => { results := [.lit (.bool false)], args := [d1, d2] }
  | _ => none }
def BoardChainsWrongFalsely : Prop := boardChainsRow.holds Try.pinned (OpenSpec.ofChange boardChainsWrong)

/- THE SECOND FORM. 'bulk': how many values and letters a reading holds, each counted each time it is reached (what is shared counts as often as it is met; a slice's spare places count too). A statement '..UptoSaid' is the law's where the arguments, and the package variables that the reading takes, are together of bulk at most 1048576: NARROWER than '..Said'. Prove '..Said' where nothing that the law and all that it calls make is longer than what came in: it says more and counts as full. Else prove '..UptoSaid'. A law counts once. -/
mutual
def uptoBulk {H : Type} : DataW H → Nat
  | .lit (.string bytes) => bytes.length + 1
  | .lit _ => 1
  | .nil => 1
  | .ptr d => uptoBulk d + 1
  | .slice elems spare => uptoBulkAll elems + uptoBulkAll spare + 1
  | .agg parts => uptoBulkAll parts + 1
  | .iface _ d => uptoBulk d + 1
  | .map entries => uptoBulkEntries entries + 1
  | .held _ => 1
def uptoBulkAll {H : Type} : List (DataW H) → Nat
  | [] => 0
  | d :: r => uptoBulk d + uptoBulkAll r
def uptoBulkEntries {H : Type} : List (Lit × DataW H) → Nat
  | [] => 0
  | x :: r => uptoBulkEntry x + uptoBulkEntries r
def uptoBulkEntry {H : Type} : Lit × DataW H → Nat
  | (.string bytes, d) => bytes.length + uptoBulk d + 1
  | (_, d) => uptoBulk d + 1
 end
def uptoSmall : (H : Type) → List (DataW H) → Bool := fun _ ds => decide (uptoBulkAll ds ≤ 1048576)
def OpenSpec.upto (s : _root_.Go.ChangeSpec) : _root_.Go.OpenSpec := { _root_.Go.OpenSpec.ofChange s with cond := some uptoSmall }

/-- 'sakialaw16.GateFits', WHERE WHAT IT READS IS OF BULK AT MOST 1048576: true; the input reads as it did. -/
def gateFitsUptoRow : OpenClaim := { program := "ytmjpdojecdnkjaa", sum := "c7621c8f7cebaba50495de5488fd7ec1140da353f1d0ac439c7d4a964e7b56b2", func := "sakia/sakialaw16.GateFits", spec := "gateFits", apart := false, narrowed := true }
def GateFitsUptoSaid : Prop := gateFitsUptoRow.holds Try.pinned (OpenSpec.upto gateFitsSpec)

/-- 'sakialaw18.TurnAlone', WHERE WHAT IT READS IS OF BULK AT MOST 1048576: true; the input reads as it did. -/
def turnAloneUptoRow : OpenClaim := { program := "ytmjpdojecdnkjaa", sum := "c7621c8f7cebaba50495de5488fd7ec1140da353f1d0ac439c7d4a964e7b56b2", func := "sakia/sakialaw18.TurnAlone", spec := "turnAlone", unfollowed := true, recurses := true, apart := false, narrowed := true }
def TurnAloneUptoSaid : Prop := turnAloneUptoRow.holds Try.pinned (OpenSpec.upto turnAloneSpec)

/-- 'sakialaw18.TurnComes', WHERE WHAT IT READS IS OF BULK AT MOST 1048576: true; the input reads as it did. -/
def turnComesUptoRow : OpenClaim := { program := "ytmjpdojecdnkjaa", sum := "c7621c8f7cebaba50495de5488fd7ec1140da353f1d0ac439c7d4a964e7b56b2", func := "sakia/sakialaw18.TurnComes", spec := "turnComes", unfollowed := true, recurses := true, apart := false, narrowed := true }
def TurnComesUptoSaid : Prop := turnComesUptoRow.holds Try.pinned (OpenSpec.upto turnComesSpec)

/-- 'sakialaw18.TurnNone', WHERE WHAT IT READS IS OF BULK AT MOST 1048576: true; the input reads as it did. -/
def turnNoneUptoRow : OpenClaim := { program := "ytmjpdojecdnkjaa", sum := "c7621c8f7cebaba50495de5488fd7ec1140da353f1d0ac439c7d4a964e7b56b2", func := "sakia/sakialaw18.TurnNone", spec := "turnNone", unfollowed := true, recurses := true, apart := false, narrowed := true }
def TurnNoneUptoSaid : Prop := turnNoneUptoRow.holds Try.pinned (OpenSpec.upto turnNoneSpec)

/-- 'sakialaw17.MarkStays', WHERE WHAT IT READS IS OF BULK AT MOST 1048576: true; the input reads as it did. -/
def markStaysUptoRow : OpenClaim := { program := "ytmjpdojecdnkjaa", sum := "c7621c8f7cebaba50495de5488fd7ec1140da353f1d0ac439c7d4a964e7b56b2", func := "sakia/sakialaw17.MarkStays", spec := "markStays", unfollowed := true, recurses := true, apart := false, narrowed := true }
def MarkStaysUptoSaid : Prop := markStaysUptoRow.holds Try.pinned (OpenSpec.upto markStaysSpec)

/-- 'sakialaw17.MarkNone', WHERE WHAT IT READS IS OF BULK AT MOST 1048576: true; the input reads as it did. -/
def markNoneUptoRow : OpenClaim := { program := "ytmjpdojecdnkjaa", sum := "c7621c8f7cebaba50495de5488fd7ec1140da353f1d0ac439c7d4a964e7b56b2", func := "sakia/sakialaw17.MarkNone", spec := "markNone", unfollowed := true, recurses := true, apart := false, narrowed := true }
def MarkNoneUptoSaid : Prop := markNoneUptoRow.holds Try.pinned (OpenSpec.upto markNoneSpec)

/-- 'sakialaw12.BoardChains', WHERE WHAT IT READS IS OF BULK AT MOST 1048576: true; the input reads as it did. -/
def boardChainsUptoRow : OpenClaim := { program := "ytmjpdojecdnkjaa", sum := "c7621c8f7cebaba50495de5488fd7ec1140da353f1d0ac439c7d4a964e7b56b2", func := "sakia/sakialaw12.BoardChains", spec := "boardChains", unfollowed := true, recurses := true, apart := false, narrowed := true }
def BoardChainsUptoSaid : Prop := boardChainsUptoRow.holds Try.pinned (OpenSpec.upto boardChainsSpec)

end Rows
end Go.Proofs.Ytmjpdojecdnkjaa
