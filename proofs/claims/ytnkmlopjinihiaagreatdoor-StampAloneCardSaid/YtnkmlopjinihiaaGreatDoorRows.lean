/-
  NARROWER THAN 'FOR EVERY INPUT', by the rows' own cells (each row's printed sentence says how): StampAlone: laid · FaaAlone: laid · CasAlone: laid · LockAlone: laid.
  DERIVED. THE GIVEN ROWS OF THIS SEAT. 4 by the template 'for every input the law returns true; each argument reads behind the call as it read before'; 0 by the template 'total and deterministic' (their statements: YtnkmlopjinihiaaGreatDoorTotals.lean).
  GIVEN WITH THE SEED: the statements are not yours to turn. If you find one false, say at which input.
  Laid BY PROGRAM, IN A SANDBOX (cutbox-rows.mjs): the forced cells as the released guide's own fill.sh prints them over the translation 9d1a3bdfe8860a7f… (all of the seat's roots in one cut). By AI agents, Wed Nov 11 2026. No macro, syntax, notation, axiom, sorry.
-/
import Derived.Test.YtnkmlopjinihiaaGreatDoorChecked
import GoSem.Claim
import GoSem.ClaimJoined
import GoSem.ClaimMapViews
import Derived.JoinedTies
import Derived.KernelRfl
namespace Go.Proofs.YtnkmlopjinihiaaGreatDoor
/- THE CELL 'sum', in the pinned program and in every row, IS THE sha256 OF THE DUMP (.gsa) THAT YtnkmlopjinihiaaGreatDoorProg.lean LOADS. Nothing in Lean hashes anything: it is a label: what it is worth is what the hold of that sum in a sandbox is worth. -/
noncomputable def Tryz.pinned : Pinned := { name := "ytnkmlopjinihiaagreatdoor", sum := "9d1a3bdfe8860a7f5f41a7a2c1ef50486129d9a514422a2284cc4cbfa4e1a7ac", checked := Tryz.checked }
namespace Rows
def none {H : Type} : Left H := { results := [], args := [] }

/- WHAT THE LISTED PACKAGE-LEVEL VARIABLES READ AS WHEN THE CALL BEGINS. Each datum BY PROGRAM (the guide's laid-datum.mjs) off the statement by which the dump's own 'gosem.cut.vars' lays the variable. In a bare row this is a premise. The card (YtnkmlopjinihiaaGreatDoorCards.lean) ties it to the program's text. -/
def laid_math_bits_deBruijn64tab {H : Type} : DataW H := .agg [.lit (.int .u8 0), .lit (.int .u8 1), .lit (.int .u8 56), .lit (.int .u8 2), .lit (.int .u8 57), .lit (.int .u8 49), .lit (.int .u8 28), .lit (.int .u8 3), .lit (.int .u8 61), .lit (.int .u8 58), .lit (.int .u8 42), .lit (.int .u8 50), .lit (.int .u8 38), .lit (.int .u8 29), .lit (.int .u8 17), .lit (.int .u8 4), .lit (.int .u8 62), .lit (.int .u8 47), .lit (.int .u8 59), .lit (.int .u8 36), .lit (.int .u8 45), .lit (.int .u8 43), .lit (.int .u8 51), .lit (.int .u8 22), .lit (.int .u8 53), .lit (.int .u8 39), .lit (.int .u8 33), .lit (.int .u8 30), .lit (.int .u8 24), .lit (.int .u8 18), .lit (.int .u8 12), .lit (.int .u8 5), .lit (.int .u8 63), .lit (.int .u8 55), .lit (.int .u8 48), .lit (.int .u8 27), .lit (.int .u8 60), .lit (.int .u8 41), .lit (.int .u8 37), .lit (.int .u8 16), .lit (.int .u8 46), .lit (.int .u8 35), .lit (.int .u8 44), .lit (.int .u8 21), .lit (.int .u8 52), .lit (.int .u8 32), .lit (.int .u8 23), .lit (.int .u8 11), .lit (.int .u8 54), .lit (.int .u8 26), .lit (.int .u8 40), .lit (.int .u8 15), .lit (.int .u8 34), .lit (.int .u8 20), .lit (.int .u8 31), .lit (.int .u8 10), .lit (.int .u8 25), .lit (.int .u8 14), .lit (.int .u8 19), .lit (.int .u8 9), .lit (.int .u8 13), .lit (.int .u8 8), .lit (.int .u8 7), .lit (.int .u8 6)]

/-- 'sakialaw22.StampAlone': WHATEVER THE INPUT: true; the input reads as it did. -/
def stampAloneSpec : ChangeSpec := { name := "stampAlone", fn := fun _ => fun
  | [d1, d2] => { results := [.lit (.bool true)], args := [d1, d2] }
  | _ => none }
def stampAloneRow : OpenClaim := { program := "ytnkmlopjinihiaagreatdoor", sum := "9d1a3bdfe8860a7f5f41a7a2c1ef50486129d9a514422a2284cc4cbfa4e1a7ac", func := "sakia/sakialaw22.StampAlone", spec := "stampAlone", unfollowed := true, recurses := true, named := ["math/bits.deBruijn64tab"], apart := false, laid := [("math/bits.deBruijn64tab", laid_math_bits_deBruijn64tab)] }
def StampAloneSaid : Prop := stampAloneRow.holds Tryz.pinned (OpenSpec.ofChange stampAloneSpec)

/-- ITS FALSE NEIGHBOUR: 'it returns false'. Refute it at one input. -/
def stampAloneWrong : ChangeSpec := { name := "stampAlone", fn := fun _ => fun
  | [d1, d2] => { results := [.lit (.bool false)], args := [d1, d2] }
  | _ => none }
def StampAloneWrongFalsely : Prop := stampAloneRow.holds Tryz.pinned (OpenSpec.ofChange stampAloneWrong)

/-- 'sakialaw21.FaaAlone': WHATEVER THE INPUT: true; the input reads as it did. -/
def faaAloneSpec : ChangeSpec := { name := "faaAlone", fn := fun _ => fun
  | [d1, d2] => { results := [.lit (.bool true)], args := [d1, d2] }
  | _ => none }
def faaAloneRow : OpenClaim := { program := "ytnkmlopjinihiaagreatdoor", sum := "9d1a3bdfe8860a7f5f41a7a2c1ef50486129d9a514422a2284cc4cbfa4e1a7ac", func := "sakia/sakialaw21.FaaAlone", spec := "faaAlone", unfollowed := true, recurses := true, named := ["math/bits.deBruijn64tab"], apart := false, laid := [("math/bits.deBruijn64tab", laid_math_bits_deBruijn64tab)] }
def FaaAloneSaid : Prop := faaAloneRow.holds Tryz.pinned (OpenSpec.ofChange faaAloneSpec)

/-- ITS FALSE NEIGHBOUR: 'it returns false'. Refute it at one input. -/
def faaAloneWrong : ChangeSpec := { name := "faaAlone", fn := fun _ => fun
  | [d1, d2] => { results := [.lit (.bool false)], args := [d1, d2] }
  | _ => none }
def FaaAloneWrongFalsely : Prop := faaAloneRow.holds Tryz.pinned (OpenSpec.ofChange faaAloneWrong)

/-- 'sakialaw20.CasAlone': WHATEVER THE INPUT: true; the input reads as it did. -/
def casAloneSpec : ChangeSpec := { name := "casAlone", fn := fun _ => fun
  | [d1, d2] => { results := [.lit (.bool true)], args := [d1, d2] }
  | _ => none }
def casAloneRow : OpenClaim := { program := "ytnkmlopjinihiaagreatdoor", sum := "9d1a3bdfe8860a7f5f41a7a2c1ef50486129d9a514422a2284cc4cbfa4e1a7ac", func := "sakia/sakialaw20.CasAlone", spec := "casAlone", unfollowed := true, recurses := true, named := ["math/bits.deBruijn64tab"], apart := false, laid := [("math/bits.deBruijn64tab", laid_math_bits_deBruijn64tab)] }
def CasAloneSaid : Prop := casAloneRow.holds Tryz.pinned (OpenSpec.ofChange casAloneSpec)

/-- ITS FALSE NEIGHBOUR: 'it returns false'. Refute it at one input. -/
def casAloneWrong : ChangeSpec := { name := "casAlone", fn := fun _ => fun
  | [d1, d2] => { results := [.lit (.bool false)], args := [d1, d2] }
  | _ => none }
def CasAloneWrongFalsely : Prop := casAloneRow.holds Tryz.pinned (OpenSpec.ofChange casAloneWrong)

/-- 'sakialaw23.LockAlone': WHATEVER THE INPUT: true; the input reads as it did. -/
def lockAloneSpec : ChangeSpec := { name := "lockAlone", fn := fun _ => fun
  | [d1, d2] => { results := [.lit (.bool true)], args := [d1, d2] }
  | _ => none }
def lockAloneRow : OpenClaim := { program := "ytnkmlopjinihiaagreatdoor", sum := "9d1a3bdfe8860a7f5f41a7a2c1ef50486129d9a514422a2284cc4cbfa4e1a7ac", func := "sakia/sakialaw23.LockAlone", spec := "lockAlone", unfollowed := true, recurses := true, named := ["math/bits.deBruijn64tab"], apart := false, laid := [("math/bits.deBruijn64tab", laid_math_bits_deBruijn64tab)] }
def LockAloneSaid : Prop := lockAloneRow.holds Tryz.pinned (OpenSpec.ofChange lockAloneSpec)

/-- ITS FALSE NEIGHBOUR: 'it returns false'. Refute it at one input. -/
def lockAloneWrong : ChangeSpec := { name := "lockAlone", fn := fun _ => fun
  | [d1, d2] => { results := [.lit (.bool false)], args := [d1, d2] }
  | _ => none }
def LockAloneWrongFalsely : Prop := lockAloneRow.holds Tryz.pinned (OpenSpec.ofChange lockAloneWrong)

/- THE SECOND FORM. 'bulk': how many values and letters a reading holds, each counted each time it is reached (what is shared counts as often as it is met; a slice's spare places count too). A statement '..UptoSaid' is the law's where the arguments, and the package variables that the reading takes, are together of bulk at most 1048576: NARROWER than '..Said'. Prove '..Said' where nothing that the law and all that it calls make is longer than what came in: it says more and counts as full. Else prove '..UptoSaid'. A law counts once. -/
mutual
def uptoBulk {H : Type} : DataW H → Nat
  | .lit (.string bytes) => bytes.length + 1
  | .lit _ => 1
  | .nil => 1
  | .ptr d => uptoBulk d + 1
  | .slice elems spare => uptoBulkAll elems + uptoBulkAll spare + 1
  | .agg parts => uptoBulkAll parts + 1
  | .iface _ d => uptoBulk d + 1
  | .map entries => uptoBulkEntries entries + 1
  | .held _ => 1
def uptoBulkAll {H : Type} : List (DataW H) → Nat
  | [] => 0
  | d :: r => uptoBulk d + uptoBulkAll r
def uptoBulkEntries {H : Type} : List (Lit × DataW H) → Nat
  | [] => 0
  | x :: r => uptoBulkEntry x + uptoBulkEntries r
def uptoBulkEntry {H : Type} : Lit × DataW H → Nat
  | (.string bytes, d) => bytes.length + uptoBulk d + 1
  | (_, d) => uptoBulk d + 1
 end
def uptoSmall : (H : Type) → List (DataW H) → Bool := fun _ ds => decide (uptoBulkAll ds ≤ 1048576)
def OpenSpec.upto (s : _root_.Go.ChangeSpec) : _root_.Go.OpenSpec := { _root_.Go.OpenSpec.ofChange s with cond := some uptoSmall }

/-- 'sakialaw22.StampAlone', WHERE WHAT IT READS IS OF BULK AT MOST 1048576: true; the input reads as it did. -/
def stampAloneUptoRow : OpenClaim := { program := "ytnkmlopjinihiaagreatdoor", sum := "9d1a3bdfe8860a7f5f41a7a2c1ef50486129d9a514422a2284cc4cbfa4e1a7ac", func := "sakia/sakialaw22.StampAlone", spec := "stampAlone", unfollowed := true, recurses := true, named := ["math/bits.deBruijn64tab"], apart := false, laid := [("math/bits.deBruijn64tab", laid_math_bits_deBruijn64tab)], narrowed := true }
def StampAloneUptoSaid : Prop := stampAloneUptoRow.holds Tryz.pinned (OpenSpec.upto stampAloneSpec)

/-- 'sakialaw21.FaaAlone', WHERE WHAT IT READS IS OF BULK AT MOST 1048576: true; the input reads as it did. -/
def faaAloneUptoRow : OpenClaim := { program := "ytnkmlopjinihiaagreatdoor", sum := "9d1a3bdfe8860a7f5f41a7a2c1ef50486129d9a514422a2284cc4cbfa4e1a7ac", func := "sakia/sakialaw21.FaaAlone", spec := "faaAlone", unfollowed := true, recurses := true, named := ["math/bits.deBruijn64tab"], apart := false, laid := [("math/bits.deBruijn64tab", laid_math_bits_deBruijn64tab)], narrowed := true }
def FaaAloneUptoSaid : Prop := faaAloneUptoRow.holds Tryz.pinned (OpenSpec.upto faaAloneSpec)

/-- 'sakialaw20.CasAlone', WHERE WHAT IT READS IS OF BULK AT MOST 1048576: true; the input reads as it did. -/
def casAloneUptoRow : OpenClaim := { program := "ytnkmlopjinihiaagreatdoor", sum := "9d1a3bdfe8860a7f5f41a7a2c1ef50486129d9a514422a2284cc4cbfa4e1a7ac", func := "sakia/sakialaw20.CasAlone", spec := "casAlone", unfollowed := true, recurses := true, named := ["math/bits.deBruijn64tab"], apart := false, laid := [("math/bits.deBruijn64tab", laid_math_bits_deBruijn64tab)], narrowed := true }
def CasAloneUptoSaid : Prop := casAloneUptoRow.holds Tryz.pinned (OpenSpec.upto casAloneSpec)

/-- 'sakialaw23.LockAlone', WHERE WHAT IT READS IS OF BULK AT MOST 1048576: true; the input reads as it did. -/
def lockAloneUptoRow : OpenClaim := { program := "ytnkmlopjinihiaagreatdoor", sum := "9d1a3bdfe8860a7f5f41a7a2c1ef50486129d9a514422a2284cc4cbfa4e1a7ac", func := "sakia/sakialaw23.LockAlone", spec := "lockAlone", unfollowed := true, recurses := true, named := ["math/bits.deBruijn64tab"], apart := false, laid := [("math/bits.deBruijn64tab", laid_math_bits_deBruijn64tab)], narrowed := true }
def LockAloneUptoSaid : Prop := lockAloneUptoRow.holds Tryz.pinned (OpenSpec.upto lockAloneSpec)

end Rows
end Go.Proofs.YtnkmlopjinihiaaGreatDoor
