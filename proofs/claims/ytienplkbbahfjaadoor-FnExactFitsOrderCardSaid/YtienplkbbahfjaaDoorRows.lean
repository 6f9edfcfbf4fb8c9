/-
  NARROWER THAN 'FOR EVERY INPUT', by the rows' own cells (each row's printed sentence says how): FnExactGoodCalls: laid · FnExactIsLinear: laid · FnExactLinearOrder: laid · FnExactIsSequential: laid · FnExactOfKey: laid · FnExactFitsOrder: laid.
  DERIVED. THE GIVEN ROWS OF THIS SEAT. 6 by the template 'for every input the law returns true; each argument reads behind the call as it read before'; 0 by the template 'total and deterministic' (their statements: YtienplkbbahfjaaDoorTotals.lean).
  GIVEN WITH THE SEED: the statements are not yours to turn. If you find one false, say at which input.
  Laid BY PROGRAM, IN A SANDBOX (cutbox-rows.mjs): the forced cells as the released guide's own fill.sh prints them over the translation f335d37d91ea5fbc… (all of the seat's roots in one cut). By AI agents, Wed Nov 11 2026. No macro, syntax, notation, axiom, sorry.
-/
import Derived.Test.YtienplkbbahfjaaDoorChecked
import GoSem.PinnedTables
import GoSem.Claim
import GoSem.ClaimJoined
import GoSem.ClaimMapViews
import Derived.JoinedTies
import Derived.KernelRfl
namespace Go.Proofs.YtienplkbbahfjaaDoor
/- THE CELL 'sum', in the pinned program and in every row, IS THE sha256 OF THE DUMP (.gsa) THAT YtienplkbbahfjaaDoorProg.lean LOADS. Nothing in Lean hashes anything: it is a label: what it is worth is what the hold of that sum in a sandbox is worth. -/
noncomputable def Tryd.pinned : Pinned := { name := "ytienplkbbahfjaadoor", sum := "f335d37d91ea5fbc99d8786ffc714f5f8508d3f7175bd55baa24691e78411f46", checked := Tryd.checked }
namespace Rows
def none {H : Type} : Left H := { results := [], args := [] }

/- WHAT THE LISTED PACKAGE-LEVEL VARIABLES READ AS WHEN THE CALL BEGINS. Each datum BY PROGRAM (the guide's laid-datum.mjs) off the statement by which the dump's own 'gosem.cut.vars' lays the variable. In a bare row this is a premise. The card (YtienplkbbahfjaaDoorCards.lean) ties it to the program's text. -/
def laid_unicode_utf8_acceptRanges {H : Type} : DataW H := .agg [.agg [.lit (.int .u8 128), .lit (.int .u8 191)], .agg [.lit (.int .u8 160), .lit (.int .u8 191)], .agg [.lit (.int .u8 128), .lit (.int .u8 159)], .agg [.lit (.int .u8 144), .lit (.int .u8 191)], .agg [.lit (.int .u8 128), .lit (.int .u8 143)], .agg [.lit (.int .u8 0), .lit (.int .u8 0)], .agg [.lit (.int .u8 0), .lit (.int .u8 0)], .agg [.lit (.int .u8 0), .lit (.int .u8 0)], .agg [.lit (.int .u8 0), .lit (.int .u8 0)], .agg [.lit (.int .u8 0), .lit (.int .u8 0)], .agg [.lit (.int .u8 0), .lit (.int .u8 0)], .agg [.lit (.int .u8 0), .lit (.int .u8 0)], .agg [.lit (.int .u8 0), .lit (.int .u8 0)], .agg [.lit (.int .u8 0), .lit (.int .u8 0)], .agg [.lit (.int .u8 0), .lit (.int .u8 0)], .agg [.lit (.int .u8 0), .lit (.int .u8 0)]]
/-- One of Go's own tables, pinned by name: the form's constant. -/
def laid_unicode_utf8_first : DataW Unit := Go.Pinned.utf8First

/-- 'laws.FnExactGoodCalls': WHATEVER THE INPUT: true; the input reads as it did. -/
def fnExactGoodCallsSpec : ChangeSpec := { name := "fnExactGoodCalls", fn := fun _ => fun
  | [d] => { results := [.lit (.bool true)], args := [d] }
  | _ => none }
def fnExactGoodCallsRow : OpenClaim := { program := "ytienplkbbahfjaadoor", sum := "f335d37d91ea5fbc99d8786ffc714f5f8508d3f7175bd55baa24691e78411f46", func := "loop.example/g00218/laws.FnExactGoodCalls", spec := "fnExactGoodCalls", inPlace := ["internal/bytealg.IndexByteString", "internal/bytealg.IndexString"], named := ["unicode/utf8.first", "unicode/utf8.acceptRanges", "internal/bytealg.MaxLen"], apart := false, laid := [("unicode/utf8.acceptRanges", laid_unicode_utf8_acceptRanges), ("unicode/utf8.first", laid_unicode_utf8_first)] }
def FnExactGoodCallsSaid : Prop := fnExactGoodCallsRow.holds Tryd.pinned (OpenSpec.ofChange fnExactGoodCallsSpec)

/-- ITS FALSE NEIGHBOUR: 'it returns false'. Refute it at one input. -/
def fnExactGoodCallsWrong : ChangeSpec := { name := "fnExactGoodCalls", fn := fun _ => fun
  | [d] => { results := [.lit (.bool false)], args := [d] }
  | _ => none }
def FnExactGoodCallsWrongFalsely : Prop := fnExactGoodCallsRow.holds Tryd.pinned (OpenSpec.ofChange fnExactGoodCallsWrong)

/-- 'laws.FnExactIsLinear': WHATEVER THE INPUT: true; the input reads as it did. -/
def fnExactIsLinearSpec : ChangeSpec := { name := "fnExactIsLinear", fn := fun _ => fun
  | [d] => { results := [.lit (.bool true)], args := [d] }
  | _ => none }
def fnExactIsLinearRow : OpenClaim := { program := "ytienplkbbahfjaadoor", sum := "f335d37d91ea5fbc99d8786ffc714f5f8508d3f7175bd55baa24691e78411f46", func := "loop.example/g00218/laws.FnExactIsLinear", spec := "fnExactIsLinear", inPlace := ["internal/bytealg.IndexByteString", "internal/bytealg.IndexString"], unfollowed := true, recurses := true, named := ["unicode/utf8.first", "unicode/utf8.acceptRanges", "internal/bytealg.MaxLen"], apart := false, laid := [("unicode/utf8.acceptRanges", laid_unicode_utf8_acceptRanges), ("unicode/utf8.first", laid_unicode_utf8_first)] }
def FnExactIsLinearSaid : Prop := fnExactIsLinearRow.holds Tryd.pinned (OpenSpec.ofChange fnExactIsLinearSpec)

/-- ITS FALSE NEIGHBOUR: 'it returns false'. Refute it at one input. -/
def fnExactIsLinearWrong : ChangeSpec := { name := "fnExactIsLinear", fn := fun _ => fun
  | [d] => { results := [.lit (.bool false)], args := [d] }
  | _ => none }
def FnExactIsLinearWrongFalsely : Prop := fnExactIsLinearRow.holds Tryd.pinned (OpenSpec.ofChange fnExactIsLinearWrong)

/-- 'laws.FnExactLinearOrder': WHATEVER THE INPUT: true; the input reads as it did. -/
def fnExactLinearOrderSpec : ChangeSpec := { name := "fnExactLinearOrder", fn := fun _ => fun
  | [d] => { results := [.lit (.bool true)], args := [d] }
  | _ => none }
def fnExactLinearOrderRow : OpenClaim := { program := "ytienplkbbahfjaadoor", sum := "f335d37d91ea5fbc99d8786ffc714f5f8508d3f7175bd55baa24691e78411f46", func := "loop.example/g00218/laws.FnExactLinearOrder", spec := "fnExactLinearOrder", inPlace := ["internal/bytealg.IndexByteString", "internal/bytealg.IndexString"], unfollowed := true, recurses := true, named := ["unicode/utf8.first", "unicode/utf8.acceptRanges", "internal/bytealg.MaxLen"], apart := false, laid := [("unicode/utf8.acceptRanges", laid_unicode_utf8_acceptRanges), ("unicode/utf8.first", laid_unicode_utf8_first)] }
def FnExactLinearOrderSaid : Prop := fnExactLinearOrderRow.holds Tryd.pinned (OpenSpec.ofChange fnExactLinearOrderSpec)

/-- ITS FALSE NEIGHBOUR: 'it returns false'. Refute it at one input. -/
def fnExactLinearOrderWrong : ChangeSpec := { name := "fnExactLinearOrder", fn := fun _ => fun
  | [d] => { results := [.lit (.bool false)], args := [d] }
  | _ => none }
def FnExactLinearOrderWrongFalsely : Prop := fnExactLinearOrderRow.holds Tryd.pinned (OpenSpec.ofChange fnExactLinearOrderWrong)

/-- 'laws.FnExactIsSequential': WHATEVER THE INPUT: true; the input reads as it did. -/
def fnExactIsSequentialSpec : ChangeSpec := { name := "fnExactIsSequential", fn := fun _ => fun
  | [d] => { results := [.lit (.bool true)], args := [d] }
  | _ => none }
def fnExactIsSequentialRow : OpenClaim := { program := "ytienplkbbahfjaadoor", sum := "f335d37d91ea5fbc99d8786ffc714f5f8508d3f7175bd55baa24691e78411f46", func := "loop.example/g00218/laws.FnExactIsSequential", spec := "fnExactIsSequential", inPlace := ["internal/bytealg.IndexByteString", "internal/bytealg.IndexString"], unfollowed := true, recurses := true, named := ["unicode/utf8.first", "unicode/utf8.acceptRanges", "internal/bytealg.MaxLen"], apart := false, laid := [("unicode/utf8.acceptRanges", laid_unicode_utf8_acceptRanges), ("unicode/utf8.first", laid_unicode_utf8_first)] }
def FnExactIsSequentialSaid : Prop := fnExactIsSequentialRow.holds Tryd.pinned (OpenSpec.ofChange fnExactIsSequentialSpec)

/-- ITS FALSE NEIGHBOUR: 'it returns false'. Refute it at one input. -/
def fnExactIsSequentialWrong : ChangeSpec := { name := "fnExactIsSequential", fn := fun _ => fun
  | [d] => { results := [.lit (.bool false)], args := [d] }
  | _ => none }
def FnExactIsSequentialWrongFalsely : Prop := fnExactIsSequentialRow.holds Tryd.pinned (OpenSpec.ofChange fnExactIsSequentialWrong)

/-- 'laws.FnExactOfKey': WHATEVER THE INPUT: true; the input reads as it did. -/
def fnExactOfKeySpec : ChangeSpec := { name := "fnExactOfKey", fn := fun _ => fun
  | [d1, d2] => { results := [.lit (.bool true)], args := [d1, d2] }
  | _ => none }
def fnExactOfKeyRow : OpenClaim := { program := "ytienplkbbahfjaadoor", sum := "f335d37d91ea5fbc99d8786ffc714f5f8508d3f7175bd55baa24691e78411f46", func := "loop.example/g00218/laws.FnExactOfKey", spec := "fnExactOfKey", inPlace := ["internal/bytealg.IndexByteString", "internal/bytealg.IndexString"], unfollowed := true, recurses := true, named := ["unicode/utf8.first", "unicode/utf8.acceptRanges", "internal/bytealg.MaxLen"], apart := false, laid := [("unicode/utf8.acceptRanges", laid_unicode_utf8_acceptRanges), ("unicode/utf8.first", laid_unicode_utf8_first)] }
def FnExactOfKeySaid : Prop := fnExactOfKeyRow.holds Tryd.pinned (OpenSpec.ofChange fnExactOfKeySpec)

/-- ITS FALSE NEIGHBOUR: 'it returns false'. Refute it at one input. -/
def fnExactOfKeyWrong : ChangeSpec := { name := "fnExactOfKey", fn := fun _ => fun
  | [d1, d2] => { results := [.lit (.bool false)], args := [d1, d2] }
  | _ => none }
def FnExactOfKeyWrongFalsely : Prop := fnExactOfKeyRow.holds Tryd.pinned (OpenSpec.ofChange fnExactOfKeyWrong)

/-- 'laws.FnExactFitsOrder': WHATEVER THE INPUT: true; the input reads as it did. -/
def fnExactFitsOrderSpec : ChangeSpec := { name := "fnExactFitsOrder", fn := fun _ => fun
  | [d1, d2] => { results := [.lit (.bool true)], args := [d1, d2] }
  | _ => none }
def fnExactFitsOrderRow : OpenClaim := { program := "ytienplkbbahfjaadoor", sum := "f335d37d91ea5fbc99d8786ffc714f5f8508d3f7175bd55baa24691e78411f46", func := "loop.example/g00218/laws.FnExactFitsOrder", spec := "fnExactFitsOrder", inPlace := ["internal/bytealg.IndexByteString", "internal/bytealg.IndexString"], unfollowed := true, recurses := true, named := ["unicode/utf8.first", "unicode/utf8.acceptRanges", "internal/bytealg.MaxLen"], apart := false, laid := [("unicode/utf8.acceptRanges", laid_unicode_utf8_acceptRanges), ("unicode/utf8.first", laid_unicode_utf8_first)] }
def FnExactFitsOrderSaid : Prop := fnExactFitsOrderRow.holds Tryd.pinned (OpenSpec.ofChange fnExactFitsOrderSpec)

/-- ITS FALSE NEIGHBOUR: 'it returns false'. Refute it at one input. -/
def fnExactFitsOrderWrong : ChangeSpec := { name := "fnExactFitsOrder", fn := fun _ => fun
  | [d1, d2] => { results := [.lit (.bool false)], args := [d1, d2] }
  | _ => none }
def FnExactFitsOrderWrongFalsely : Prop := fnExactFitsOrderRow.holds Tryd.pinned (OpenSpec.ofChange fnExactFitsOrderWrong)

/- THE SECOND FORM. 'bulk': how many values and letters a reading holds, each counted each time it is reached (what is shared counts as often as it is met; a slice's spare places count too). A statement '..UptoSaid' is the law's where the arguments, and the package variables that the reading takes, are together of bulk at most 1048576: NARROWER than '..Said'. Prove '..Said' where nothing that the law and all that it calls make is longer than what came in: it says more and counts as full. Else prove '..UptoSaid'. A law counts once. -/
mutual
def uptoBulk {H : Type} : DataW H → Nat
  | .lit (.string bytes) => bytes.length + 1
  | .lit _ => 1
  | .nil => 1
  | .ptr d => uptoBulk d + 1
  | .slice elems spare => uptoBulkAll elems + uptoBulkAll spare + 1
  | .agg parts => uptoBulkAll parts + 1
  | .iface _ d => uptoBulk d + 1
  | .map entries => uptoBulkEntries entries + 1
  | .held _ => 1
def uptoBulkAll {H : Type} : List (DataW H) → Nat
  | [] => 0
  | d :: r => uptoBulk d + uptoBulkAll r
def uptoBulkEntries {H : Type} : List (Lit × DataW H) → Nat
  | [] => 0
  | x :: r => uptoBulkEntry x + uptoBulkEntries r
def uptoBulkEntry {H : Type} : Lit × DataW H → Nat
  | (.string bytes, d) => bytes.length + uptoBulk d + 1
  | (_, d) => uptoBulk d + 1
 end
def uptoSmall : (H : Type) → List (DataW H) → Bool := fun _ ds => decide (uptoBulkAll ds ≤ 1048576)
def OpenSpec.upto (s : _root_.Go.ChangeSpec) : _root_.Go.OpenSpec := { _root_.Go.OpenSpec.ofChange s with cond := some uptoSmall }

/-- 'laws.FnExactGoodCalls', WHERE WHAT IT READS IS OF BULK AT MOST 1048576: true; the input reads as it did. -/
def fnExactGoodCallsUptoRow : OpenClaim := { program := "ytienplkbbahfjaadoor", sum := "f335d37d91ea5fbc99d8786ffc714f5f8508d3f7175bd55baa24691e78411f46", func := "loop.example/g00218/laws.FnExactGoodCalls", spec := "fnExactGoodCalls", inPlace := ["internal/bytealg.IndexByteString", "internal/bytealg.IndexString"], named := ["unicode/utf8.first", "unicode/utf8.acceptRanges", "internal/bytealg.MaxLen"], apart := false, laid := [("unicode/utf8.acceptRanges", laid_unicode_utf8_acceptRanges), ("unicode/utf8.first", laid_unicode_utf8_first)], narrowed := true }
def FnExactGoodCallsUptoSaid : Prop := fnExactGoodCallsUptoRow.holds Tryd.pinned (OpenSpec.upto fnExactGoodCallsSpec)

/-- 'laws.FnExactIsLinear', WHERE WHAT IT READS IS OF BULK AT MOST 1048576: true; the input reads as it did. -/
def fnExactIsLinearUptoRow : OpenClaim := { program := "ytienplkbbahfjaadoor", sum := "f335d37d91ea5fbc99d8786ffc714f5f8508d3f7175bd55baa24691e78411f46", func := "loop.example/g00218/laws.FnExactIsLinear", spec := "fnExactIsLinear", inPlace := ["internal/bytealg.IndexByteString", "internal/bytealg.IndexString"], unfollowed := true, recurses := true, named := ["unicode/utf8.first", "unicode/utf8.acceptRanges", "internal/bytealg.MaxLen"], apart := false, laid := [("unicode/utf8.acceptRanges", laid_unicode_utf8_acceptRanges), ("unicode/utf8.first", laid_unicode_utf8_first)], narrowed := true }
def FnExactIsLinearUptoSaid : Prop := fnExactIsLinearUptoRow.holds Tryd.pinned (OpenSpec.upto fnExactIsLinearSpec)

/-- 'laws.FnExactLinearOrder', WHERE WHAT IT READS IS OF BULK AT MOST 1048576: true; the input reads as it did. -/
def fnExactLinearOrderUptoRow : OpenClaim := { program := "ytienplkbbahfjaadoor", sum := "f335d37d91ea5fbc99d8786ffc714f5f8508d3f7175bd55baa24691e78411f46", func := "loop.example/g00218/laws.FnExactLinearOrder", spec := "fnExactLinearOrder", inPlace := ["internal/bytealg.IndexByteString", "internal/bytealg.IndexString"], unfollowed := true, recurses := true, named := ["unicode/utf8.first", "unicode/utf8.acceptRanges", "internal/bytealg.MaxLen"], apart := false, laid := [("unicode/utf8.acceptRanges", laid_unicode_utf8_acceptRanges), ("unicode/utf8.first", laid_unicode_utf8_first)], narrowed := true }
def FnExactLinearOrderUptoSaid : Prop := fnExactLinearOrderUptoRow.holds Tryd.pinned (OpenSpec.upto fnExactLinearOrderSpec)

/-- 'laws.FnExactIsSequential', WHERE WHAT IT READS IS OF BULK AT MOST 1048576: true; the input reads as it did. -/
def fnExactIsSequentialUptoRow : OpenClaim := { program := "ytienplkbbahfjaadoor", sum := "f335d37d91ea5fbc99d8786ffc714f5f8508d3f7175bd55baa24691e78411f46", func := "loop.example/g00218/laws.FnExactIsSequential", spec := "fnExactIsSequential", inPlace := ["internal/bytealg.IndexByteString", "internal/bytealg.IndexString"], unfollowed := true, recurses := true, named := ["unicode/utf8.first", "unicode/utf8.acceptRanges", "internal/bytealg.MaxLen"], apart := false, laid := [("unicode/utf8.acceptRanges", laid_unicode_utf8_acceptRanges), ("unicode/utf8.first", laid_unicode_utf8_first)], narrowed := true }
def FnExactIsSequentialUptoSaid : Prop := fnExactIsSequentialUptoRow.holds Tryd.pinned (OpenSpec.upto fnExactIsSequentialSpec)

/-- 'laws.FnExactOfKey', WHERE WHAT IT READS IS OF BULK AT MOST 1048576: true; the input reads as it did. -/
def fnExactOfKeyUptoRow : OpenClaim := { program := "ytienplkbbahfjaadoor", sum := "f335d37d91ea5fbc99d8786ffc714f5f8508d3f7175bd55baa24691e78411f46", func := "loop.example/g00218/laws.FnExactOfKey", spec := "fnExactOfKey", inPlace := ["internal/bytealg.IndexByteString", "internal/bytealg.IndexString"], unfollowed := true, recurses := true, named := ["unicode/utf8.first", "unicode/utf8.acceptRanges", "internal/bytealg.MaxLen"], apart := false, laid := [("unicode/utf8.acceptRanges", laid_unicode_utf8_acceptRanges), ("unicode/utf8.first", laid_unicode_utf8_first)], narrowed := true }
def FnExactOfKeyUptoSaid : Prop := fnExactOfKeyUptoRow.holds Tryd.pinned (OpenSpec.upto fnExactOfKeySpec)

/-- 'laws.FnExactFitsOrder', WHERE WHAT IT READS IS OF BULK AT MOST 1048576: true; the input reads as it did. -/
def fnExactFitsOrderUptoRow : OpenClaim := { program := "ytienplkbbahfjaadoor", sum := "f335d37d91ea5fbc99d8786ffc714f5f8508d3f7175bd55baa24691e78411f46", func := "loop.example/g00218/laws.FnExactFitsOrder", spec := "fnExactFitsOrder", inPlace := ["internal/bytealg.IndexByteString", "internal/bytealg.IndexString"], unfollowed := true, recurses := true, named := ["unicode/utf8.first", "unicode/utf8.acceptRanges", "internal/bytealg.MaxLen"], apart := false, laid := [("unicode/utf8.acceptRanges", laid_unicode_utf8_acceptRanges), ("unicode/utf8.first", laid_unicode_utf8_first)], narrowed := true }
def FnExactFitsOrderUptoSaid : Prop := fnExactFitsOrderUptoRow.holds Tryd.pinned (OpenSpec.upto fnExactFitsOrderSpec)

end Rows
end Go.Proofs.YtienplkbbahfjaaDoor
