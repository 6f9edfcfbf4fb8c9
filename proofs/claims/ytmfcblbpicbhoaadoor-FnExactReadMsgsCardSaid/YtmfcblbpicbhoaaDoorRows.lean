/-
  NARROWER THAN 'FOR EVERY INPUT', by the rows' own cells (each row's printed sentence says how): FnExactGoodMsg: laid · FnExactMsgBytes: laid · FnExactReadMsg: laid · FnExactMsgsBytes: laid · FnExactReadMsgs: laid.
  DERIVED. THE GIVEN ROWS OF THIS SEAT. 5 by the template 'for every input the law returns true; each argument reads behind the call as it read before'; 0 by the template 'total and deterministic' (their statements: YtmfcblbpicbhoaaDoorTotals.lean).
  GIVEN WITH THE SEED: the statements are not yours to turn. If you find one false, say at which input.
  Laid BY PROGRAM, IN A SANDBOX (cutbox-rows.mjs): the forced cells as the released guide's own fill.sh prints them over the translation 7dd1988a9f215e1e… (all of the seat's roots in one cut). By AI agents, Wed Nov 11 2026. No macro, syntax, notation, axiom, sorry.
-/
import Derived.Test.YtmfcblbpicbhoaaDoorChecked
import GoSem.PinnedTables
import GoSem.Claim
import GoSem.ClaimJoined
import GoSem.ClaimMapViews
import Derived.JoinedTies
import Derived.KernelRfl
namespace Go.Proofs.YtmfcblbpicbhoaaDoor
/- THE CELL 'sum', in the pinned program and in every row, IS THE sha256 OF THE DUMP (.gsa) THAT YtmfcblbpicbhoaaDoorProg.lean LOADS. Nothing in Lean hashes anything: it is a label: what it is worth is what the hold of that sum in a sandbox is worth. -/
noncomputable def Tryd.pinned : Pinned := { name := "ytmfcblbpicbhoaadoor", sum := "7dd1988a9f215e1e09f75df44232887eecaa7389b9680a80341b866d808b1875", checked := Tryd.checked }
namespace Rows
def none {H : Type} : Left H := { results := [], args := [] }

/- WHAT THE LISTED PACKAGE-LEVEL VARIABLES READ AS WHEN THE CALL BEGINS. Each datum BY PROGRAM (the guide's laid-datum.mjs) off the statement by which the dump's own 'gosem.cut.vars' lays the variable. In a bare row this is a premise. The card (YtmfcblbpicbhoaaDoorCards.lean) ties it to the program's text. -/
def laid_unicode_utf8_acceptRanges {H : Type} : DataW H := .agg [.agg [.lit (.int .u8 128), .lit (.int .u8 191)], .agg [.lit (.int .u8 160), .lit (.int .u8 191)], .agg [.lit (.int .u8 128), .lit (.int .u8 159)], .agg [.lit (.int .u8 144), .lit (.int .u8 191)], .agg [.lit (.int .u8 128), .lit (.int .u8 143)], .agg [.lit (.int .u8 0), .lit (.int .u8 0)], .agg [.lit (.int .u8 0), .lit (.int .u8 0)], .agg [.lit (.int .u8 0), .lit (.int .u8 0)], .agg [.lit (.int .u8 0), .lit (.int .u8 0)], .agg [.lit (.int .u8 0), .lit (.int .u8 0)], .agg [.lit (.int .u8 0), .lit (.int .u8 0)], .agg [.lit (.int .u8 0), .lit (.int .u8 0)], .agg [.lit (.int .u8 0), .lit (.int .u8 0)], .agg [.lit (.int .u8 0), .lit (.int .u8 0)], .agg [.lit (.int .u8 0), .lit (.int .u8 0)], .agg [.lit (.int .u8 0), .lit (.int .u8 0)]]
/-- One of Go's own tables, pinned by name: the form's constant. -/
def laid_unicode_utf8_first : DataW Unit := Go.Pinned.utf8First

/-- 'laws.FnExactGoodMsg': WHATEVER THE INPUT: true; the input reads as it did. -/
def fnExactGoodMsgSpec : ChangeSpec := { name := "fnExactGoodMsg", fn := fun _ => fun
  | [d] => { results := [.lit (.bool true)], args := [d] }
  | _ => none }
def fnExactGoodMsgRow : OpenClaim := { program := "ytmfcblbpicbhoaadoor", sum := "7dd1988a9f215e1e09f75df44232887eecaa7389b9680a80341b866d808b1875", func := "loop.example/g00218/laws.FnExactGoodMsg", spec := "fnExactGoodMsg", inPlace := ["internal/bytealg.IndexByteString", "internal/bytealg.IndexString"], named := ["unicode/utf8.first", "unicode/utf8.acceptRanges", "internal/bytealg.MaxLen"], apart := false, laid := [("unicode/utf8.acceptRanges", laid_unicode_utf8_acceptRanges), ("unicode/utf8.first", laid_unicode_utf8_first)] }
def FnExactGoodMsgSaid : Prop := fnExactGoodMsgRow.holds Tryd.pinned (OpenSpec.ofChange fnExactGoodMsgSpec)

/-- ITS FALSE NEIGHBOUR: 'it returns false'. Refute it at one input. -/
def fnExactGoodMsgWrong : ChangeSpec := { name := "fnExactGoodMsg", fn := fun _ => fun
  | [d] => { results := [.lit (.bool false)], args := [d] }
  | _ => none }
def FnExactGoodMsgWrongFalsely : Prop := fnExactGoodMsgRow.holds Tryd.pinned (OpenSpec.ofChange fnExactGoodMsgWrong)

/-- 'laws.FnExactMsgBytes': WHATEVER THE INPUT: true; the input reads as it did. -/
def fnExactMsgBytesSpec : ChangeSpec := { name := "fnExactMsgBytes", fn := fun _ => fun
  | [d] => { results := [.lit (.bool true)], args := [d] }
  | _ => none }
def fnExactMsgBytesRow : OpenClaim := { program := "ytmfcblbpicbhoaadoor", sum := "7dd1988a9f215e1e09f75df44232887eecaa7389b9680a80341b866d808b1875", func := "loop.example/g00218/laws.FnExactMsgBytes", spec := "fnExactMsgBytes", inPlace := ["internal/bytealg.IndexByteString", "internal/bytealg.IndexString"], named := ["unicode/utf8.first", "unicode/utf8.acceptRanges", "encoding/binary.BigEndian", "internal/bytealg.MaxLen"], apart := false, laid := [("unicode/utf8.acceptRanges", laid_unicode_utf8_acceptRanges), ("unicode/utf8.first", laid_unicode_utf8_first)] }
def FnExactMsgBytesSaid : Prop := fnExactMsgBytesRow.holds Tryd.pinned (OpenSpec.ofChange fnExactMsgBytesSpec)

/-- ITS FALSE NEIGHBOUR: 'it returns false'. Refute it at one input. -/
def fnExactMsgBytesWrong : ChangeSpec := { name := "fnExactMsgBytes", fn := fun _ => fun
  | [d] => { results := [.lit (.bool false)], args := [d] }
  | _ => none }
def FnExactMsgBytesWrongFalsely : Prop := fnExactMsgBytesRow.holds Tryd.pinned (OpenSpec.ofChange fnExactMsgBytesWrong)

/-- 'laws.FnExactReadMsg': WHATEVER THE INPUT: true; the input reads as it did. -/
def fnExactReadMsgSpec : ChangeSpec := { name := "fnExactReadMsg", fn := fun _ => fun
  | [d] => { results := [.lit (.bool true)], args := [d] }
  | _ => none }
def fnExactReadMsgRow : OpenClaim := { program := "ytmfcblbpicbhoaadoor", sum := "7dd1988a9f215e1e09f75df44232887eecaa7389b9680a80341b866d808b1875", func := "loop.example/g00218/laws.FnExactReadMsg", spec := "fnExactReadMsg", inPlace := ["internal/bytealg.IndexByteString", "internal/bytealg.IndexString"], named := ["encoding/binary.BigEndian", "unicode/utf8.first", "unicode/utf8.acceptRanges", "internal/bytealg.MaxLen"], apart := false, laid := [("unicode/utf8.acceptRanges", laid_unicode_utf8_acceptRanges), ("unicode/utf8.first", laid_unicode_utf8_first)] }
def FnExactReadMsgSaid : Prop := fnExactReadMsgRow.holds Tryd.pinned (OpenSpec.ofChange fnExactReadMsgSpec)

/-- ITS FALSE NEIGHBOUR: 'it returns false'. Refute it at one input. -/
def fnExactReadMsgWrong : ChangeSpec := { name := "fnExactReadMsg", fn := fun _ => fun
  | [d] => { results := [.lit (.bool false)], args := [d] }
  | _ => none }
def FnExactReadMsgWrongFalsely : Prop := fnExactReadMsgRow.holds Tryd.pinned (OpenSpec.ofChange fnExactReadMsgWrong)

/-- 'laws.FnExactMsgsBytes': WHATEVER THE INPUT: true; the input reads as it did. -/
def fnExactMsgsBytesSpec : ChangeSpec := { name := "fnExactMsgsBytes", fn := fun _ => fun
  | [d] => { results := [.lit (.bool true)], args := [d] }
  | _ => none }
def fnExactMsgsBytesRow : OpenClaim := { program := "ytmfcblbpicbhoaadoor", sum := "7dd1988a9f215e1e09f75df44232887eecaa7389b9680a80341b866d808b1875", func := "loop.example/g00218/laws.FnExactMsgsBytes", spec := "fnExactMsgsBytes", inPlace := ["internal/bytealg.IndexByteString", "internal/bytealg.IndexString"], unfollowed := true, recurses := true, named := ["unicode/utf8.first", "unicode/utf8.acceptRanges", "encoding/binary.BigEndian", "internal/bytealg.MaxLen"], apart := false, laid := [("unicode/utf8.acceptRanges", laid_unicode_utf8_acceptRanges), ("unicode/utf8.first", laid_unicode_utf8_first)] }
def FnExactMsgsBytesSaid : Prop := fnExactMsgsBytesRow.holds Tryd.pinned (OpenSpec.ofChange fnExactMsgsBytesSpec)

/-- ITS FALSE NEIGHBOUR: 'it returns false'. Refute it at one input. -/
def fnExactMsgsBytesWrong : ChangeSpec := { name := "fnExactMsgsBytes", fn := fun _ => fun
  | [d] => { results := [.lit (.bool false)], args := [d] }
  | _ => none }
def FnExactMsgsBytesWrongFalsely : Prop := fnExactMsgsBytesRow.holds Tryd.pinned (OpenSpec.ofChange fnExactMsgsBytesWrong)

/-- 'laws.FnExactReadMsgs': WHATEVER THE INPUT: true; the input reads as it did. -/
def fnExactReadMsgsSpec : ChangeSpec := { name := "fnExactReadMsgs", fn := fun _ => fun
  | [d] => { results := [.lit (.bool true)], args := [d] }
  | _ => none }
def fnExactReadMsgsRow : OpenClaim := { program := "ytmfcblbpicbhoaadoor", sum := "7dd1988a9f215e1e09f75df44232887eecaa7389b9680a80341b866d808b1875", func := "loop.example/g00218/laws.FnExactReadMsgs", spec := "fnExactReadMsgs", inPlace := ["internal/bytealg.IndexByteString", "internal/bytealg.IndexString"], named := ["encoding/binary.BigEndian", "unicode/utf8.first", "unicode/utf8.acceptRanges", "internal/bytealg.MaxLen"], apart := false, laid := [("unicode/utf8.acceptRanges", laid_unicode_utf8_acceptRanges), ("unicode/utf8.first", laid_unicode_utf8_first)] }
def FnExactReadMsgsSaid : Prop := fnExactReadMsgsRow.holds Tryd.pinned (OpenSpec.ofChange fnExactReadMsgsSpec)

/-- ITS FALSE NEIGHBOUR: 'it returns false'. Refute it at one input. -/
def fnExactReadMsgsWrong : ChangeSpec := { name := "fnExactReadMsgs", fn := fun _ => fun
  | [d] => { results := [.lit (.bool false)], args := [d] }
  | _ => none }
def FnExactReadMsgsWrongFalsely : Prop := fnExactReadMsgsRow.holds Tryd.pinned (OpenSpec.ofChange fnExactReadMsgsWrong)

/- THE SECOND FORM. 'bulk': how many values and letters a reading holds, each counted each time it is reached (what is shared counts as often as it is met; a slice's spare places count too). A statement '..UptoSaid' is the law's where the arguments, and the package variables that the reading takes, are together of bulk at most 1048576: NARROWER than '..Said'. Prove '..Said' where nothing that the law and all that it calls make is longer than what came in: it says more and counts as full. Else prove '..UptoSaid'. A law counts once. -/
mutual
def uptoBulk {H : Type} : DataW H → Nat
  | .lit (.string bytes) => bytes.length + 1
  | .lit _ => 1
  | .nil => 1
  | .ptr d => uptoBulk d + 1
  | .slice elems spare => uptoBulkAll elems + uptoBulkAll spare + 1
  | .agg parts => uptoBulkAll parts + 1
  | .iface _ d => uptoBulk d + 1
  | .map entries => uptoBulkEntries entries + 1
  | .held _ => 1
def uptoBulkAll {H : Type} : List (DataW H) → Nat
  | [] => 0
  | d :: r => uptoBulk d + uptoBulkAll r
def uptoBulkEntries {H : Type} : List (Lit × DataW H) → Nat
  | [] => 0
  | x :: r => uptoBulkEntry x + uptoBulkEntries r
def uptoBulkEntry {H : Type} : Lit × DataW H → Nat
  | (.string bytes, d) => bytes.length + uptoBulk d + 1
  | (_, d) => uptoBulk d + 1
 end
def uptoSmall : (H : Type) → List (DataW H) → Bool := fun _ ds => decide (uptoBulkAll ds ≤ 1048576)
def OpenSpec.upto (s : _root_.Go.ChangeSpec) : _root_.Go.OpenSpec := { _root_.Go.OpenSpec.ofChange s with cond := some uptoSmall }

/-- 'laws.FnExactGoodMsg', WHERE WHAT IT READS IS OF BULK AT MOST 1048576: true; the input reads as it did. -/
def fnExactGoodMsgUptoRow : OpenClaim := { program := "ytmfcblbpicbhoaadoor", sum := "7dd1988a9f215e1e09f75df44232887eecaa7389b9680a80341b866d808b1875", func := "loop.example/g00218/laws.FnExactGoodMsg", spec := "fnExactGoodMsg", inPlace := ["internal/bytealg.IndexByteString", "internal/bytealg.IndexString"], named := ["unicode/utf8.first", "unicode/utf8.acceptRanges", "internal/bytealg.MaxLen"], apart := false, laid := [("unicode/utf8.acceptRanges", laid_unicode_utf8_acceptRanges), ("unicode/utf8.first", laid_unicode_utf8_first)], narrowed := true }
def FnExactGoodMsgUptoSaid : Prop := fnExactGoodMsgUptoRow.holds Tryd.pinned (OpenSpec.upto fnExactGoodMsgSpec)

/-- 'laws.FnExactMsgBytes', WHERE WHAT IT READS IS OF BULK AT MOST 1048576: true; the input reads as it did. -/
def fnExactMsgBytesUptoRow : OpenClaim := { program := "ytmfcblbpicbhoaadoor", sum := "7dd1988a9f215e1e09f75df44232887eecaa7389b9680a80341b866d808b1875", func := "loop.example/g00218/laws.FnExactMsgBytes", spec := "fnExactMsgBytes", inPlace := ["internal/bytealg.IndexByteString", "internal/bytealg.IndexString"], named := ["unicode/utf8.first", "unicode/utf8.acceptRanges", "encoding/binary.BigEndian", "internal/bytealg.MaxLen"], apart := false, laid := [("unicode/utf8.acceptRanges", laid_unicode_utf8_acceptRanges), ("unicode/utf8.first", laid_unicode_utf8_first)], narrowed := true }
def FnExactMsgBytesUptoSaid : Prop := fnExactMsgBytesUptoRow.holds Tryd.pinned (OpenSpec.upto fnExactMsgBytesSpec)

/-- 'laws.FnExactReadMsg', WHERE WHAT IT READS IS OF BULK AT MOST 1048576: true; the input reads as it did. -/
def fnExactReadMsgUptoRow : OpenClaim := { program := "ytmfcblbpicbhoaadoor", sum := "7dd1988a9f215e1e09f75df44232887eecaa7389b9680a80341b866d808b1875", func := "loop.example/g00218/laws.FnExactReadMsg", spec := "fnExactReadMsg", inPlace := ["internal/bytealg.IndexByteString", "internal/bytealg.IndexString"], named := ["encoding/binary.BigEndian", "unicode/utf8.first", "unicode/utf8.acceptRanges", "internal/bytealg.MaxLen"], apart := false, laid := [("unicode/utf8.acceptRanges", laid_unicode_utf8_acceptRanges), ("unicode/utf8.first", laid_unicode_utf8_first)], narrowed := true }
def FnExactReadMsgUptoSaid : Prop := fnExactReadMsgUptoRow.holds Tryd.pinned (OpenSpec.upto fnExactReadMsgSpec)

/-- 'laws.FnExactMsgsBytes', WHERE WHAT IT READS IS OF BULK AT MOST 1048576: true; the input reads as it did. -/
def fnExactMsgsBytesUptoRow : OpenClaim := { program := "ytmfcblbpicbhoaadoor", sum := "7dd1988a9f215e1e09f75df44232887eecaa7389b9680a80341b866d808b1875", func := "loop.example/g00218/laws.FnExactMsgsBytes", spec := "fnExactMsgsBytes", inPlace := ["internal/bytealg.IndexByteString", "internal/bytealg.IndexString"], unfollowed := true, recurses := true, named := ["unicode/utf8.first", "unicode/utf8.acceptRanges", "encoding/binary.BigEndian", "internal/bytealg.MaxLen"], apart := false, laid := [("unicode/utf8.acceptRanges", laid_unicode_utf8_acceptRanges), ("unicode/utf8.first", laid_unicode_utf8_first)], narrowed := true }
def FnExactMsgsBytesUptoSaid : Prop := fnExactMsgsBytesUptoRow.holds Tryd.pinned (OpenSpec.upto fnExactMsgsBytesSpec)

/-- 'laws.FnExactReadMsgs', WHERE WHAT IT READS IS OF BULK AT MOST 1048576: true; the input reads as it did. -/
def fnExactReadMsgsUptoRow : OpenClaim := { program := "ytmfcblbpicbhoaadoor", sum := "7dd1988a9f215e1e09f75df44232887eecaa7389b9680a80341b866d808b1875", func := "loop.example/g00218/laws.FnExactReadMsgs", spec := "fnExactReadMsgs", inPlace := ["internal/bytealg.IndexByteString", "internal/bytealg.IndexString"], named := ["encoding/binary.BigEndian", "unicode/utf8.first", "unicode/utf8.acceptRanges", "internal/bytealg.MaxLen"], apart := false, laid := [("unicode/utf8.acceptRanges", laid_unicode_utf8_acceptRanges), ("unicode/utf8.first", laid_unicode_utf8_first)], narrowed := true }
def FnExactReadMsgsUptoSaid : Prop := fnExactReadMsgsUptoRow.holds Tryd.pinned (OpenSpec.upto fnExactReadMsgsSpec)

end Rows
end Go.Proofs.YtmfcblbpicbhoaaDoor
