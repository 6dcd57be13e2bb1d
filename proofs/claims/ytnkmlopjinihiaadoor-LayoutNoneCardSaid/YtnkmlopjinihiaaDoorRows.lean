/-
  NARROWER THAN 'FOR EVERY INPUT', by the rows' own cells (each row's printed sentence says how): LayoutFinds: laid · LayoutNumbers: laid · GateBetween: laid · GateNone: laid · LayoutTells: laid · OneAlone: laid · LayoutNone: laid · StampNone: laid · FaaNone: laid · CasNone: laid · LockNone: laid.
  DERIVED. THE GIVEN ROWS OF THIS SEAT. 11 by the template 'for every input the law returns true; each argument reads behind the call as it read before'; 0 by the template 'total and deterministic' (their statements: YtnkmlopjinihiaaDoorTotals.lean).
  GIVEN WITH THE SEED: the statements are not yours to turn. If you find one false, say at which input.
  Laid BY PROGRAM, IN A SANDBOX (cutbox-rows.mjs): the forced cells as the released guide's own fill.sh prints them over the translation 8a8e0e4a2220de15… (all of the seat's roots in one cut). By AI agents, Wed Nov 11 2026. No macro, syntax, notation, axiom, sorry.
-/
import Derived.Test.YtnkmlopjinihiaaDoorChecked
import GoSem.Claim
import GoSem.ClaimJoined
import GoSem.ClaimMapViews
import Derived.JoinedTies
import Derived.KernelRfl
namespace Go.Proofs.YtnkmlopjinihiaaDoor
/- THE CELL 'sum', in the pinned program and in every row, IS THE sha256 OF THE DUMP (.gsa) THAT YtnkmlopjinihiaaDoorProg.lean LOADS. Nothing in Lean hashes anything: it is a label: what it is worth is what the hold of that sum in a sandbox is worth. -/
noncomputable def Tryd.pinned : Pinned := { name := "ytnkmlopjinihiaadoor", sum := "8a8e0e4a2220de157002b87965061b6b91b72eaf9ef74393eeba8ad37787ec1d", checked := Tryd.checked }
namespace Rows
def none {H : Type} : Left H := { results := [], args := [] }

/- WHAT THE LISTED PACKAGE-LEVEL VARIABLES READ AS WHEN THE CALL BEGINS. Each datum BY PROGRAM (the guide's laid-datum.mjs) off the statement by which the dump's own 'gosem.cut.vars' lays the variable. In a bare row this is a premise. The card (YtnkmlopjinihiaaDoorCards.lean) ties it to the program's text. -/
def laid_math_bits_deBruijn32tab {H : Type} : DataW H := .agg [.lit (.int .u8 0), .lit (.int .u8 1), .lit (.int .u8 28), .lit (.int .u8 2), .lit (.int .u8 29), .lit (.int .u8 14), .lit (.int .u8 24), .lit (.int .u8 3), .lit (.int .u8 30), .lit (.int .u8 22), .lit (.int .u8 20), .lit (.int .u8 15), .lit (.int .u8 25), .lit (.int .u8 17), .lit (.int .u8 4), .lit (.int .u8 8), .lit (.int .u8 31), .lit (.int .u8 27), .lit (.int .u8 13), .lit (.int .u8 23), .lit (.int .u8 21), .lit (.int .u8 19), .lit (.int .u8 16), .lit (.int .u8 7), .lit (.int .u8 26), .lit (.int .u8 12), .lit (.int .u8 18), .lit (.int .u8 6), .lit (.int .u8 11), .lit (.int .u8 5), .lit (.int .u8 10), .lit (.int .u8 9)]
def laid_math_bits_deBruijn64tab {H : Type} : DataW H := .agg [.lit (.int .u8 0), .lit (.int .u8 1), .lit (.int .u8 56), .lit (.int .u8 2), .lit (.int .u8 57), .lit (.int .u8 49), .lit (.int .u8 28), .lit (.int .u8 3), .lit (.int .u8 61), .lit (.int .u8 58), .lit (.int .u8 42), .lit (.int .u8 50), .lit (.int .u8 38), .lit (.int .u8 29), .lit (.int .u8 17), .lit (.int .u8 4), .lit (.int .u8 62), .lit (.int .u8 47), .lit (.int .u8 59), .lit (.int .u8 36), .lit (.int .u8 45), .lit (.int .u8 43), .lit (.int .u8 51), .lit (.int .u8 22), .lit (.int .u8 53), .lit (.int .u8 39), .lit (.int .u8 33), .lit (.int .u8 30), .lit (.int .u8 24), .lit (.int .u8 18), .lit (.int .u8 12), .lit (.int .u8 5), .lit (.int .u8 63), .lit (.int .u8 55), .lit (.int .u8 48), .lit (.int .u8 27), .lit (.int .u8 60), .lit (.int .u8 41), .lit (.int .u8 37), .lit (.int .u8 16), .lit (.int .u8 46), .lit (.int .u8 35), .lit (.int .u8 44), .lit (.int .u8 21), .lit (.int .u8 52), .lit (.int .u8 32), .lit (.int .u8 23), .lit (.int .u8 11), .lit (.int .u8 54), .lit (.int .u8 26), .lit (.int .u8 40), .lit (.int .u8 15), .lit (.int .u8 34), .lit (.int .u8 20), .lit (.int .u8 31), .lit (.int .u8 10), .lit (.int .u8 25), .lit (.int .u8 14), .lit (.int .u8 19), .lit (.int .u8 9), .lit (.int .u8 13), .lit (.int .u8 8), .lit (.int .u8 7), .lit (.int .u8 6)]
def laid_internal_strconv_uint64pow10 {H : Type} : DataW H := .agg [.lit (.int .u64 1), .lit (.int .u64 10), .lit (.int .u64 100), .lit (.int .u64 1000), .lit (.int .u64 10000), .lit (.int .u64 100000), .lit (.int .u64 1000000), .lit (.int .u64 10000000), .lit (.int .u64 100000000), .lit (.int .u64 1000000000), .lit (.int .u64 10000000000), .lit (.int .u64 100000000000), .lit (.int .u64 1000000000000), .lit (.int .u64 10000000000000), .lit (.int .u64 100000000000000), .lit (.int .u64 1000000000000000), .lit (.int .u64 10000000000000000), .lit (.int .u64 100000000000000000), .lit (.int .u64 1000000000000000000), .lit (.int .u64 10000000000000000000)]

/-- 'sakialaw11.LayoutFinds': WHATEVER THE INPUT: true; the input reads as it did. -/
def layoutFindsSpec : ChangeSpec := { name := "layoutFinds", fn := fun _ => fun
  | [d1, d2] => { results := [.lit (.bool true)], args := [d1, d2] }
  | _ => none }
def layoutFindsRow : OpenClaim := { program := "ytnkmlopjinihiaadoor", sum := "8a8e0e4a2220de157002b87965061b6b91b72eaf9ef74393eeba8ad37787ec1d", func := "sakia/sakialaw11.LayoutFinds", spec := "layoutFinds", unfollowed := true, recurses := true, named := ["internal/strconv.uint64pow10", "math/bits.deBruijn32tab", "math/bits.deBruijn64tab"], apart := false, laid := [("math/bits.deBruijn32tab", laid_math_bits_deBruijn32tab), ("math/bits.deBruijn64tab", laid_math_bits_deBruijn64tab), ("internal/strconv.uint64pow10", laid_internal_strconv_uint64pow10)] }
def LayoutFindsSaid : Prop := layoutFindsRow.holds Tryd.pinned (OpenSpec.ofChange layoutFindsSpec)

/-- ITS FALSE NEIGHBOUR: 'it returns false'. Refute it at one input. -/
def layoutFindsWrong : ChangeSpec := { name := "layoutFinds", fn := fun _ => fun
  | [d1, d2] => { results := [.lit (.bool false)], args := [d1, d2] }
  | _ => none }
def LayoutFindsWrongFalsely : Prop := layoutFindsRow.holds Tryd.pinned (OpenSpec.ofChange layoutFindsWrong)

/-- 'sakialaw11.LayoutNumbers': WHATEVER THE INPUT: true; the input reads as it did. -/
def layoutNumbersSpec : ChangeSpec := { name := "layoutNumbers", fn := fun _ => fun
  | [d1, d2] => { results := [.lit (.bool true)], args := [d1, d2] }
  | _ => none }
def layoutNumbersRow : OpenClaim := { program := "ytnkmlopjinihiaadoor", sum := "8a8e0e4a2220de157002b87965061b6b91b72eaf9ef74393eeba8ad37787ec1d", func := "sakia/sakialaw11.LayoutNumbers", spec := "layoutNumbers", unfollowed := true, recurses := true, named := ["internal/strconv.uint64pow10", "math/bits.deBruijn32tab", "math/bits.deBruijn64tab"], apart := false, laid := [("math/bits.deBruijn32tab", laid_math_bits_deBruijn32tab), ("math/bits.deBruijn64tab", laid_math_bits_deBruijn64tab), ("internal/strconv.uint64pow10", laid_internal_strconv_uint64pow10)] }
def LayoutNumbersSaid : Prop := layoutNumbersRow.holds Tryd.pinned (OpenSpec.ofChange layoutNumbersSpec)

/-- ITS FALSE NEIGHBOUR: 'it returns false'. Refute it at one input. -/
def layoutNumbersWrong : ChangeSpec := { name := "layoutNumbers", fn := fun _ => fun
  | [d1, d2] => { results := [.lit (.bool false)], args := [d1, d2] }
  | _ => none }
def LayoutNumbersWrongFalsely : Prop := layoutNumbersRow.holds Tryd.pinned (OpenSpec.ofChange layoutNumbersWrong)

/-- 'sakialaw16.GateBetween': WHATEVER THE INPUT: true; the input reads as it did. -/
def gateBetweenSpec : ChangeSpec := { name := "gateBetween", fn := fun _ => fun
  | [d1, d2, d3] => { results := [.lit (.bool true)], args := [d1, d2, d3] }
  | _ => none }
def gateBetweenRow : OpenClaim := { program := "ytnkmlopjinihiaadoor", sum := "8a8e0e4a2220de157002b87965061b6b91b72eaf9ef74393eeba8ad37787ec1d", func := "sakia/sakialaw16.GateBetween", spec := "gateBetween", unfollowed := true, recurses := true, named := ["math/bits.deBruijn64tab"], apart := false, laid := [("math/bits.deBruijn64tab", laid_math_bits_deBruijn64tab)] }
def GateBetweenSaid : Prop := gateBetweenRow.holds Tryd.pinned (OpenSpec.ofChange gateBetweenSpec)

/-- ITS FALSE NEIGHBOUR: 'it returns false'. Refute it at one input. -/
def gateBetweenWrong : ChangeSpec := { name := "gateBetween", fn := fun _ => fun
  | [d1, d2, d3] => { results := [.lit (.bool false)], args := [d1, d2, d3] }
  | _ => none }
def GateBetweenWrongFalsely : Prop := gateBetweenRow.holds Tryd.pinned (OpenSpec.ofChange gateBetweenWrong)

/-- 'sakialaw16.GateNone': WHATEVER THE INPUT: true; the input reads as it did. -/
def gateNoneSpec : ChangeSpec := { name := "gateNone", fn := fun _ => fun
  | [d1, d2, d3] => { results := [.lit (.bool true)], args := [d1, d2, d3] }
  | _ => none }
def gateNoneRow : OpenClaim := { program := "ytnkmlopjinihiaadoor", sum := "8a8e0e4a2220de157002b87965061b6b91b72eaf9ef74393eeba8ad37787ec1d", func := "sakia/sakialaw16.GateNone", spec := "gateNone", unfollowed := true, recurses := true, named := ["math/bits.deBruijn64tab"], apart := false, laid := [("math/bits.deBruijn64tab", laid_math_bits_deBruijn64tab)] }
def GateNoneSaid : Prop := gateNoneRow.holds Tryd.pinned (OpenSpec.ofChange gateNoneSpec)

/-- ITS FALSE NEIGHBOUR: 'it returns false'. Refute it at one input. -/
def gateNoneWrong : ChangeSpec := { name := "gateNone", fn := fun _ => fun
  | [d1, d2, d3] => { results := [.lit (.bool false)], args := [d1, d2, d3] }
  | _ => none }
def GateNoneWrongFalsely : Prop := gateNoneRow.holds Tryd.pinned (OpenSpec.ofChange gateNoneWrong)

/-- 'sakialaw11.LayoutTells': WHATEVER THE INPUT: true; the input reads as it did. -/
def layoutTellsSpec : ChangeSpec := { name := "layoutTells", fn := fun _ => fun
  | [d1, d2] => { results := [.lit (.bool true)], args := [d1, d2] }
  | _ => none }
def layoutTellsRow : OpenClaim := { program := "ytnkmlopjinihiaadoor", sum := "8a8e0e4a2220de157002b87965061b6b91b72eaf9ef74393eeba8ad37787ec1d", func := "sakia/sakialaw11.LayoutTells", spec := "layoutTells", unfollowed := true, recurses := true, named := ["internal/strconv.uint64pow10", "math/bits.deBruijn32tab", "math/bits.deBruijn64tab"], apart := false, laid := [("math/bits.deBruijn32tab", laid_math_bits_deBruijn32tab), ("math/bits.deBruijn64tab", laid_math_bits_deBruijn64tab), ("internal/strconv.uint64pow10", laid_internal_strconv_uint64pow10)] }
def LayoutTellsSaid : Prop := layoutTellsRow.holds Tryd.pinned (OpenSpec.ofChange layoutTellsSpec)

/-- ITS FALSE NEIGHBOUR: 'it returns false'. Refute it at one input. -/
def layoutTellsWrong : ChangeSpec := { name := "layoutTells", fn := fun _ => fun
  | [d1, d2] => { results := [.lit (.bool false)], args := [d1, d2] }
  | _ => none }
def LayoutTellsWrongFalsely : Prop := layoutTellsRow.holds Tryd.pinned (OpenSpec.ofChange layoutTellsWrong)

/-- 'sakialaw19.OneAlone': WHATEVER THE INPUT: true; the input reads as it did. -/
def oneAloneSpec : ChangeSpec := { name := "oneAlone", fn := fun _ => fun
  | [d1, d2] => { results := [.lit (.bool true)], args := [d1, d2] }
  | _ => none }
def oneAloneRow : OpenClaim := { program := "ytnkmlopjinihiaadoor", sum := "8a8e0e4a2220de157002b87965061b6b91b72eaf9ef74393eeba8ad37787ec1d", func := "sakia/sakialaw19.OneAlone", spec := "oneAlone", unfollowed := true, recurses := true, named := ["math/bits.deBruijn64tab"], apart := false, laid := [("math/bits.deBruijn64tab", laid_math_bits_deBruijn64tab)] }
def OneAloneSaid : Prop := oneAloneRow.holds Tryd.pinned (OpenSpec.ofChange oneAloneSpec)

/-- ITS FALSE NEIGHBOUR: 'it returns false'. Refute it at one input. -/
def oneAloneWrong : ChangeSpec := { name := "oneAlone", fn := fun _ => fun
  | [d1, d2] => { results := [.lit (.bool false)], args := [d1, d2] }
  | _ => none }
def OneAloneWrongFalsely : Prop := oneAloneRow.holds Tryd.pinned (OpenSpec.ofChange oneAloneWrong)

/-- 'sakialaw11.LayoutNone': WHATEVER THE INPUT: true; the input reads as it did. -/
def layoutNoneSpec : ChangeSpec := { name := "layoutNone", fn := fun _ => fun
  | [d1, d2] => { results := [.lit (.bool true)], args := [d1, d2] }
  | _ => none }
def layoutNoneRow : OpenClaim := { program := "ytnkmlopjinihiaadoor", sum := "8a8e0e4a2220de157002b87965061b6b91b72eaf9ef74393eeba8ad37787ec1d", func := "sakia/sakialaw11.LayoutNone", spec := "layoutNone", unfollowed := true, recurses := true, named := ["internal/strconv.uint64pow10", "math/bits.deBruijn32tab", "math/bits.deBruijn64tab"], apart := false, laid := [("math/bits.deBruijn32tab", laid_math_bits_deBruijn32tab), ("math/bits.deBruijn64tab", laid_math_bits_deBruijn64tab), ("internal/strconv.uint64pow10", laid_internal_strconv_uint64pow10)] }
def LayoutNoneSaid : Prop := layoutNoneRow.holds Tryd.pinned (OpenSpec.ofChange layoutNoneSpec)

/-- ITS FALSE NEIGHBOUR: 'it returns false'. Refute it at one input. -/
def layoutNoneWrong : ChangeSpec := { name := "layoutNone", fn := fun _ => fun
  | [d1, d2] => { results := [.lit (.bool false)], args := [d1, d2] }
  | _ => none }
def LayoutNoneWrongFalsely : Prop := layoutNoneRow.holds Tryd.pinned (OpenSpec.ofChange layoutNoneWrong)

/-- 'sakialaw22.StampNone': WHATEVER THE INPUT: true; the input reads as it did. -/
def stampNoneSpec : ChangeSpec := { name := "stampNone", fn := fun _ => fun
  | [d1, d2, d3] => { results := [.lit (.bool true)], args := [d1, d2, d3] }
  | _ => none }
def stampNoneRow : OpenClaim := { program := "ytnkmlopjinihiaadoor", sum := "8a8e0e4a2220de157002b87965061b6b91b72eaf9ef74393eeba8ad37787ec1d", func := "sakia/sakialaw22.StampNone", spec := "stampNone", unfollowed := true, recurses := true, named := ["math/bits.deBruijn64tab"], apart := false, laid := [("math/bits.deBruijn64tab", laid_math_bits_deBruijn64tab)] }
def StampNoneSaid : Prop := stampNoneRow.holds Tryd.pinned (OpenSpec.ofChange stampNoneSpec)

/-- ITS FALSE NEIGHBOUR: 'it returns false'. Refute it at one input. -/
def stampNoneWrong : ChangeSpec := { name := "stampNone", fn := fun _ => fun
  | [d1, d2, d3] => { results := [.lit (.bool false)], args := [d1, d2, d3] }
  | _ => none }
def StampNoneWrongFalsely : Prop := stampNoneRow.holds Tryd.pinned (OpenSpec.ofChange stampNoneWrong)

/-- 'sakialaw21.FaaNone': WHATEVER THE INPUT: true; the input reads as it did. -/
def faaNoneSpec : ChangeSpec := { name := "faaNone", fn := fun _ => fun
  | [d1, d2, d3] => { results := [.lit (.bool true)], args := [d1, d2, d3] }
  | _ => none }
def faaNoneRow : OpenClaim := { program := "ytnkmlopjinihiaadoor", sum := "8a8e0e4a2220de157002b87965061b6b91b72eaf9ef74393eeba8ad37787ec1d", func := "sakia/sakialaw21.FaaNone", spec := "faaNone", unfollowed := true, recurses := true, named := ["math/bits.deBruijn64tab"], apart := false, laid := [("math/bits.deBruijn64tab", laid_math_bits_deBruijn64tab)] }
def FaaNoneSaid : Prop := faaNoneRow.holds Tryd.pinned (OpenSpec.ofChange faaNoneSpec)

/-- ITS FALSE NEIGHBOUR: 'it returns false'. Refute it at one input. -/
def faaNoneWrong : ChangeSpec := { name := "faaNone", fn := fun _ => fun
  | [d1, d2, d3] => { results := [.lit (.bool false)], args := [d1, d2, d3] }
  | _ => none }
def FaaNoneWrongFalsely : Prop := faaNoneRow.holds Tryd.pinned (OpenSpec.ofChange faaNoneWrong)

/-- 'sakialaw20.CasNone': WHATEVER THE INPUT: true; the input reads as it did. -/
def casNoneSpec : ChangeSpec := { name := "casNone", fn := fun _ => fun
  | [d1, d2, d3] => { results := [.lit (.bool true)], args := [d1, d2, d3] }
  | _ => none }
def casNoneRow : OpenClaim := { program := "ytnkmlopjinihiaadoor", sum := "8a8e0e4a2220de157002b87965061b6b91b72eaf9ef74393eeba8ad37787ec1d", func := "sakia/sakialaw20.CasNone", spec := "casNone", unfollowed := true, recurses := true, named := ["math/bits.deBruijn64tab"], apart := false, laid := [("math/bits.deBruijn64tab", laid_math_bits_deBruijn64tab)] }
def CasNoneSaid : Prop := casNoneRow.holds Tryd.pinned (OpenSpec.ofChange casNoneSpec)

/-- ITS FALSE NEIGHBOUR: 'it returns false'. Refute it at one input. -/
def casNoneWrong : ChangeSpec := { name := "casNone", fn := fun _ => fun
  | [d1, d2, d3] => { results := [.lit (.bool false)], args := [d1, d2, d3] }
  | _ => none }
def CasNoneWrongFalsely : Prop := casNoneRow.holds Tryd.pinned (OpenSpec.ofChange casNoneWrong)

/-- 'sakialaw23.LockNone': WHATEVER THE INPUT: true; the input reads as it did. -/
def lockNoneSpec : ChangeSpec := { name := "lockNone", fn := fun _ => fun
  | [d1, d2, d3] => { results := [.lit (.bool true)], args := [d1, d2, d3] }
  | _ => none }
def lockNoneRow : OpenClaim := { program := "ytnkmlopjinihiaadoor", sum := "8a8e0e4a2220de157002b87965061b6b91b72eaf9ef74393eeba8ad37787ec1d", func := "sakia/sakialaw23.LockNone", spec := "lockNone", unfollowed := true, recurses := true, named := ["math/bits.deBruijn64tab"], apart := false, laid := [("math/bits.deBruijn64tab", laid_math_bits_deBruijn64tab)] }
def LockNoneSaid : Prop := lockNoneRow.holds Tryd.pinned (OpenSpec.ofChange lockNoneSpec)

/-- ITS FALSE NEIGHBOUR: 'it returns false'. Refute it at one input. -/
def lockNoneWrong : ChangeSpec := { name := "lockNone", fn := fun _ => fun
  | [d1, d2, d3] => { results := [.lit (.bool false)], args := [d1, d2, d3] }
  | _ => none }
def LockNoneWrongFalsely : Prop := lockNoneRow.holds Tryd.pinned (OpenSpec.ofChange lockNoneWrong)

/- THE SECOND FORM. 'bulk': how many values and letters a reading holds, each counted each time it is reached (what is shared counts as often as it is met; a slice's spare places count too). A statement '..UptoSaid' is the law's where the arguments, and the package variables that the reading takes, are together of bulk at most 1048576: NARROWER than '..Said'. Prove '..Said' where nothing that the law and all that it calls make is longer than what came in: it says more and counts as full. Else prove '..UptoSaid'. A law counts once. -/
mutual
def uptoBulk {H : Type} : DataW H → Nat
  | .lit (.string bytes) => bytes.length + 1
  | .lit _ => 1
  | .nil => 1
  | .ptr d => uptoBulk d + 1
  | .slice elems spare => uptoBulkAll elems + uptoBulkAll spare + 1
  | .agg parts => uptoBulkAll parts + 1
  | .iface _ d => uptoBulk d + 1
  | .map entries => uptoBulkEntries entries + 1
  | .held _ => 1
def uptoBulkAll {H : Type} : List (DataW H) → Nat
  | [] => 0
  | d :: r => uptoBulk d + uptoBulkAll r
def uptoBulkEntries {H : Type} : List (Lit × DataW H) → Nat
  | [] => 0
  | x :: r => uptoBulkEntry x + uptoBulkEntries r
def uptoBulkEntry {H : Type} : Lit × DataW H → Nat
  | (.string bytes, d) => bytes.length + uptoBulk d + 1
  | (_, d) => uptoBulk d + 1
 end
def uptoSmall : (H : Type) → List (DataW H) → Bool := fun _ ds => decide (uptoBulkAll ds ≤ 1048576)
def OpenSpec.upto (s : _root_.Go.ChangeSpec) : _root_.Go.OpenSpec := { _root_.Go.OpenSpec.ofChange s with cond := some uptoSmall }

/-- 'sakialaw11.LayoutFinds', WHERE WHAT IT READS IS OF BULK AT MOST 1048576: true; the input reads as it did. -/
def layoutFindsUptoRow : OpenClaim := { program := "ytnkmlopjinihiaadoor", sum := "8a8e0e4a2220de157002b87965061b6b91b72eaf9ef74393eeba8ad37787ec1d", func := "sakia/sakialaw11.LayoutFinds", spec := "layoutFinds", unfollowed := true, recurses := true, named := ["internal/strconv.uint64pow10", "math/bits.deBruijn32tab", "math/bits.deBruijn64tab"], apart := false, laid := [("math/bits.deBruijn32tab", laid_math_bits_deBruijn32tab), ("math/bits.deBruijn64tab", laid_math_bits_deBruijn64tab), ("internal/strconv.uint64pow10", laid_internal_strconv_uint64pow10)], narrowed := true }
def LayoutFindsUptoSaid : Prop := layoutFindsUptoRow.holds Tryd.pinned (OpenSpec.upto layoutFindsSpec)

/-- 'sakialaw11.LayoutNumbers', WHERE WHAT IT READS IS OF BULK AT MOST 1048576: true; the input reads as it did. -/
def layoutNumbersUptoRow : OpenClaim := { program := "ytnkmlopjinihiaadoor", sum := "8a8e0e4a2220de157002b87965061b6b91b72eaf9ef74393eeba8ad37787ec1d", func := "sakia/sakialaw11.LayoutNumbers", spec := "layoutNumbers", unfollowed := true, recurses := true, named := ["internal/strconv.uint64pow10", "math/bits.deBruijn32tab", "math/bits.deBruijn64tab"], apart := false, laid := [("math/bits.deBruijn32tab", laid_math_bits_deBruijn32tab), ("math/bits.deBruijn64tab", laid_math_bits_deBruijn64tab), ("internal/strconv.uint64pow10", laid_internal_strconv_uint64pow10)], narrowed := true }
def LayoutNumbersUptoSaid : Prop := layoutNumbersUptoRow.holds Tryd.pinned (OpenSpec.upto layoutNumbersSpec)

/-- 'sakialaw16.GateBetween', WHERE WHAT IT READS IS OF BULK AT MOST 1048576: true; the input reads as it did. -/
def gateBetweenUptoRow : OpenClaim := { program := "ytnkmlopjinihiaadoor", sum := "8a8e0e4a2220de157002b87965061b6b91b72eaf9ef74393eeba8ad37787ec1d", func := "sakia/sakialaw16.GateBetween", spec := "gateBetween", unfollowed := true, recurses := true, named := ["math/bits.deBruijn64tab"], apart := false, laid := [("math/bits.deBruijn64tab", laid_math_bits_deBruijn64tab)], narrowed := true }
def GateBetweenUptoSaid : Prop := gateBetweenUptoRow.holds Tryd.pinned (OpenSpec.upto gateBetweenSpec)

/-- 'sakialaw16.GateNone', WHERE WHAT IT READS IS OF BULK AT MOST 1048576: true; the input reads as it did. -/
def gateNoneUptoRow : OpenClaim := { program := "ytnkmlopjinihiaadoor", sum := "8a8e0e4a2220de157002b87965061b6b91b72eaf9ef74393eeba8ad37787ec1d", func := "sakia/sakialaw16.GateNone", spec := "gateNone", unfollowed := true, recurses := true, named := ["math/bits.deBruijn64tab"], apart := false, laid := [("math/bits.deBruijn64tab", laid_math_bits_deBruijn64tab)], narrowed := true }
def GateNoneUptoSaid : Prop := gateNoneUptoRow.holds Tryd.pinned (OpenSpec.upto gateNoneSpec)

/-- 'sakialaw11.LayoutTells', WHERE WHAT IT READS IS OF BULK AT MOST 1048576: true; the input reads as it did. -/
def layoutTellsUptoRow : OpenClaim := { program := "ytnkmlopjinihiaadoor", sum := "8a8e0e4a2220de157002b87965061b6b91b72eaf9ef74393eeba8ad37787ec1d", func := "sakia/sakialaw11.LayoutTells", spec := "layoutTells", unfollowed := true, recurses := true, named := ["internal/strconv.uint64pow10", "math/bits.deBruijn32tab", "math/bits.deBruijn64tab"], apart := false, laid := [("math/bits.deBruijn32tab", laid_math_bits_deBruijn32tab), ("math/bits.deBruijn64tab", laid_math_bits_deBruijn64tab), ("internal/strconv.uint64pow10", laid_internal_strconv_uint64pow10)], narrowed := true }
def LayoutTellsUptoSaid : Prop := layoutTellsUptoRow.holds Tryd.pinned (OpenSpec.upto layoutTellsSpec)

/-- 'sakialaw19.OneAlone', WHERE WHAT IT READS IS OF BULK AT MOST 1048576: true; the input reads as it did. -/
def oneAloneUptoRow : OpenClaim := { program := "ytnkmlopjinihiaadoor", sum := "8a8e0e4a2220de157002b87965061b6b91b72eaf9ef74393eeba8ad37787ec1d", func := "sakia/sakialaw19.OneAlone", spec := "oneAlone", unfollowed := true, recurses := true, named := ["math/bits.deBruijn64tab"], apart := false, laid := [("math/bits.deBruijn64tab", laid_math_bits_deBruijn64tab)], narrowed := true }
def OneAloneUptoSaid : Prop := oneAloneUptoRow.holds Tryd.pinned (OpenSpec.upto oneAloneSpec)

/-- 'sakialaw11.LayoutNone', WHERE WHAT IT READS IS OF BULK AT MOST 1048576: true; the input reads as it did. -/
def layoutNoneUptoRow : OpenClaim := { program := "ytnkmlopjinihiaadoor", sum := "8a8e0e4a2220de157002b87965061b6b91b72eaf9ef74393eeba8ad37787ec1d", func := "sakia/sakialaw11.LayoutNone", spec := "layoutNone", unfollowed := true, recurses := true, named := ["internal/strconv.uint64pow10", "math/bits.deBruijn32tab", "math/bits.deBruijn64tab"], apart := false, laid := [("math/bits.deBruijn32tab", laid_math_bits_deBruijn32tab), ("math/bits.deBruijn64tab", laid_math_bits_deBruijn64tab), ("internal/strconv.uint64pow10", laid_internal_strconv_uint64pow10)], narrowed := true }
def LayoutNoneUptoSaid : Prop := layoutNoneUptoRow.holds Tryd.pinned (OpenSpec.upto layoutNoneSpec)

/-- 'sakialaw22.StampNone', WHERE WHAT IT READS IS OF BULK AT MOST 1048576: true; the input reads as it did. -/
def stampNoneUptoRow : OpenClaim := { program := "ytnkmlopjinihiaadoor", sum := "8a8e0e4a2220de157002b87965061b6b91b72eaf9ef74393eeba8ad37787ec1d", func := "sakia/sakialaw22.StampNone", spec := "stampNone", unfollowed := true, recurses := true, named := ["math/bits.deBruijn64tab"], apart := false, laid := [("math/bits.deBruijn64tab", laid_math_bits_deBruijn64tab)], narrowed := true }
def StampNoneUptoSaid : Prop := stampNoneUptoRow.holds Tryd.pinned (OpenSpec.upto stampNoneSpec)

/-- 'sakialaw21.FaaNone', WHERE WHAT IT READS IS OF BULK AT MOST 1048576: true; the input reads as it did. -/
def faaNoneUptoRow : OpenClaim := { program := "ytnkmlopjinihiaadoor", sum := "8a8e0e4a2220de157002b87965061b6b91b72eaf9ef74393eeba8ad37787ec1d", func := "sakia/sakialaw21.FaaNone", spec := "faaNone", unfollowed := true, recurses := true, named := ["math/bits.deBruijn64tab"], apart := false, laid := [("math/bits.deBruijn64tab", laid_math_bits_deBruijn64tab)], narrowed := true }
def FaaNoneUptoSaid : Prop := faaNoneUptoRow.holds Tryd.pinned (OpenSpec.upto faaNoneSpec)

/-- 'sakialaw20.CasNone', WHERE WHAT IT READS IS OF BULK AT MOST 1048576: true; the input reads as it did. -/
def casNoneUptoRow : OpenClaim := { program := "ytnkmlopjinihiaadoor", sum := "8a8e0e4a2220de157002b87965061b6b91b72eaf9ef74393eeba8ad37787ec1d", func := "sakia/sakialaw20.CasNone", spec := "casNone", unfollowed := true, recurses := true, named := ["math/bits.deBruijn64tab"], apart := false, laid := [("math/bits.deBruijn64tab", laid_math_bits_deBruijn64tab)], narrowed := true }
def CasNoneUptoSaid : Prop := casNoneUptoRow.holds Tryd.pinned (OpenSpec.upto casNoneSpec)

/-- 'sakialaw23.LockNone', WHERE WHAT IT READS IS OF BULK AT MOST 1048576: true; the input reads as it did. -/
def lockNoneUptoRow : OpenClaim := { program := "ytnkmlopjinihiaadoor", sum := "8a8e0e4a2220de157002b87965061b6b91b72eaf9ef74393eeba8ad37787ec1d", func := "sakia/sakialaw23.LockNone", spec := "lockNone", unfollowed := true, recurses := true, named := ["math/bits.deBruijn64tab"], apart := false, laid := [("math/bits.deBruijn64tab", laid_math_bits_deBruijn64tab)], narrowed := true }
def LockNoneUptoSaid : Prop := lockNoneUptoRow.holds Tryd.pinned (OpenSpec.upto lockNoneSpec)

end Rows
end Go.Proofs.YtnkmlopjinihiaaDoor
