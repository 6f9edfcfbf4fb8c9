/-
  NARROWER THAN 'FOR EVERY INPUT', by the rows' own cells (each row's printed sentence says how): FnExactGoodOps: laid · FnExactRecoverableOf: laid · FnExactReadsFrom: laid · FnExactIsTwoPhase: laid · FnExactSerialOps: laid · FnExactConflictsOf: laid · FnExactSerialOrder: laid · FnExactRunOps: laid.
  DERIVED. THE GIVEN ROWS OF THIS SEAT. 8 by the template 'for every input the law returns true; each argument reads behind the call as it read before'; 0 by the template 'total and deterministic' (their statements: YtobkiheihjdanaaDoorTotals.lean).
  GIVEN WITH THE SEED: the statements are not yours to turn. If you find one false, say at which input.
  Laid BY PROGRAM, IN A SANDBOX (cutbox-rows.mjs): the forced cells as the released guide's own fill.sh prints them over the translation 6019d2c5e2942718… (all of the seat's roots in one cut). By AI agents, Wed Nov 11 2026. No macro, syntax, notation, axiom, sorry.
-/
import Derived.Test.YtobkiheihjdanaaDoorChecked
import GoSem.PinnedTables
import GoSem.Claim
import GoSem.ClaimJoined
import GoSem.ClaimMapViews
import Derived.JoinedTies
import Derived.KernelRfl
namespace Go.Proofs.YtobkiheihjdanaaDoor
/- THE CELL 'sum', in the pinned program and in every row, IS THE sha256 OF THE DUMP (.gsa) THAT YtobkiheihjdanaaDoorProg.lean LOADS. Nothing in Lean hashes anything: it is a label: what it is worth is what the hold of that sum in a sandbox is worth. -/
noncomputable def Tryd.pinned : Pinned := { name := "ytobkiheihjdanaadoor", sum := "6019d2c5e2942718bb5e55794f6008d699699960239da360ead3046494315494", checked := Tryd.checked }
namespace Rows
def none {H : Type} : Left H := { results := [], args := [] }

/- WHAT THE LISTED PACKAGE-LEVEL VARIABLES READ AS WHEN THE CALL BEGINS. Each datum BY PROGRAM (the guide's laid-datum.mjs) off the statement by which the dump's own 'gosem.cut.vars' lays the variable. In a bare row this is a premise. The card (YtobkiheihjdanaaDoorCards.lean) ties it to the program's text. -/
def laid_unicode_utf8_acceptRanges {H : Type} : DataW H := .agg [.agg [.lit (.int .u8 128), .lit (.int .u8 191)], .agg [.lit (.int .u8 160), .lit (.int .u8 191)], .agg [.lit (.int .u8 128), .lit (.int .u8 159)], .agg [.lit (.int .u8 144), .lit (.int .u8 191)], .agg [.lit (.int .u8 128), .lit (.int .u8 143)], .agg [.lit (.int .u8 0), .lit (.int .u8 0)], .agg [.lit (.int .u8 0), .lit (.int .u8 0)], .agg [.lit (.int .u8 0), .lit (.int .u8 0)], .agg [.lit (.int .u8 0), .lit (.int .u8 0)], .agg [.lit (.int .u8 0), .lit (.int .u8 0)], .agg [.lit (.int .u8 0), .lit (.int .u8 0)], .agg [.lit (.int .u8 0), .lit (.int .u8 0)], .agg [.lit (.int .u8 0), .lit (.int .u8 0)], .agg [.lit (.int .u8 0), .lit (.int .u8 0)], .agg [.lit (.int .u8 0), .lit (.int .u8 0)], .agg [.lit (.int .u8 0), .lit (.int .u8 0)]]
/-- One of Go's own tables, pinned by name: the form's constant. -/
def laid_unicode_utf8_first : DataW Unit := Go.Pinned.utf8First
def laid_math_bits_deBruijn32tab {H : Type} : DataW H := .agg [.lit (.int .u8 0), .lit (.int .u8 1), .lit (.int .u8 28), .lit (.int .u8 2), .lit (.int .u8 29), .lit (.int .u8 14), .lit (.int .u8 24), .lit (.int .u8 3), .lit (.int .u8 30), .lit (.int .u8 22), .lit (.int .u8 20), .lit (.int .u8 15), .lit (.int .u8 25), .lit (.int .u8 17), .lit (.int .u8 4), .lit (.int .u8 8), .lit (.int .u8 31), .lit (.int .u8 27), .lit (.int .u8 13), .lit (.int .u8 23), .lit (.int .u8 21), .lit (.int .u8 19), .lit (.int .u8 16), .lit (.int .u8 7), .lit (.int .u8 26), .lit (.int .u8 12), .lit (.int .u8 18), .lit (.int .u8 6), .lit (.int .u8 11), .lit (.int .u8 5), .lit (.int .u8 10), .lit (.int .u8 9)]
def laid_math_bits_deBruijn64tab {H : Type} : DataW H := .agg [.lit (.int .u8 0), .lit (.int .u8 1), .lit (.int .u8 56), .lit (.int .u8 2), .lit (.int .u8 57), .lit (.int .u8 49), .lit (.int .u8 28), .lit (.int .u8 3), .lit (.int .u8 61), .lit (.int .u8 58), .lit (.int .u8 42), .lit (.int .u8 50), .lit (.int .u8 38), .lit (.int .u8 29), .lit (.int .u8 17), .lit (.int .u8 4), .lit (.int .u8 62), .lit (.int .u8 47), .lit (.int .u8 59), .lit (.int .u8 36), .lit (.int .u8 45), .lit (.int .u8 43), .lit (.int .u8 51), .lit (.int .u8 22), .lit (.int .u8 53), .lit (.int .u8 39), .lit (.int .u8 33), .lit (.int .u8 30), .lit (.int .u8 24), .lit (.int .u8 18), .lit (.int .u8 12), .lit (.int .u8 5), .lit (.int .u8 63), .lit (.int .u8 55), .lit (.int .u8 48), .lit (.int .u8 27), .lit (.int .u8 60), .lit (.int .u8 41), .lit (.int .u8 37), .lit (.int .u8 16), .lit (.int .u8 46), .lit (.int .u8 35), .lit (.int .u8 44), .lit (.int .u8 21), .lit (.int .u8 52), .lit (.int .u8 32), .lit (.int .u8 23), .lit (.int .u8 11), .lit (.int .u8 54), .lit (.int .u8 26), .lit (.int .u8 40), .lit (.int .u8 15), .lit (.int .u8 34), .lit (.int .u8 20), .lit (.int .u8 31), .lit (.int .u8 10), .lit (.int .u8 25), .lit (.int .u8 14), .lit (.int .u8 19), .lit (.int .u8 9), .lit (.int .u8 13), .lit (.int .u8 8), .lit (.int .u8 7), .lit (.int .u8 6)]
def laid_internal_strconv_uint64pow10 {H : Type} : DataW H := .agg [.lit (.int .u64 1), .lit (.int .u64 10), .lit (.int .u64 100), .lit (.int .u64 1000), .lit (.int .u64 10000), .lit (.int .u64 100000), .lit (.int .u64 1000000), .lit (.int .u64 10000000), .lit (.int .u64 100000000), .lit (.int .u64 1000000000), .lit (.int .u64 10000000000), .lit (.int .u64 100000000000), .lit (.int .u64 1000000000000), .lit (.int .u64 10000000000000), .lit (.int .u64 100000000000000), .lit (.int .u64 1000000000000000), .lit (.int .u64 10000000000000000), .lit (.int .u64 100000000000000000), .lit (.int .u64 1000000000000000000), .lit (.int .u64 10000000000000000000)]

/-- 'laws.FnExactGoodOps': WHATEVER THE INPUT: true; the input reads as it did. -/
def fnExactGoodOpsSpec : ChangeSpec := { name := "fnExactGoodOps", fn := fun _ => fun
  | [d] => { results := [.lit (.bool true)], args := [d] }
  | _ => none }
def fnExactGoodOpsRow : OpenClaim := { program := "ytobkiheihjdanaadoor", sum := "6019d2c5e2942718bb5e55794f6008d699699960239da360ead3046494315494", func := "loop.example/g00218/laws.FnExactGoodOps", spec := "fnExactGoodOps", inPlace := ["internal/bytealg.IndexByteString", "internal/bytealg.IndexString"], named := ["unicode/utf8.first", "unicode/utf8.acceptRanges", "internal/bytealg.MaxLen"], apart := false, laid := [("unicode/utf8.acceptRanges", laid_unicode_utf8_acceptRanges), ("unicode/utf8.first", laid_unicode_utf8_first)] }
def FnExactGoodOpsSaid : Prop := fnExactGoodOpsRow.holds Tryd.pinned (OpenSpec.ofChange fnExactGoodOpsSpec)

/-- ITS FALSE NEIGHBOUR: 'it returns false'. Refute it at one input. -/
def fnExactGoodOpsWrong : ChangeSpec := { name := "fnExactGoodOps", fn := fun _ => fun
  | [d] => { results := [.lit (.bool false)], args := [d] }
  | _ => none }
def FnExactGoodOpsWrongFalsely : Prop := fnExactGoodOpsRow.holds Tryd.pinned (OpenSpec.ofChange fnExactGoodOpsWrong)

/-- 'laws.FnExactRecoverableOf': WHATEVER THE INPUT: true; the input reads as it did. -/
def fnExactRecoverableOfSpec : ChangeSpec := { name := "fnExactRecoverableOf", fn := fun _ => fun
  | [d] => { results := [.lit (.bool true)], args := [d] }
  | _ => none }
def fnExactRecoverableOfRow : OpenClaim := { program := "ytobkiheihjdanaadoor", sum := "6019d2c5e2942718bb5e55794f6008d699699960239da360ead3046494315494", func := "loop.example/g00218/laws.FnExactRecoverableOf", spec := "fnExactRecoverableOf", inPlace := ["internal/bytealg.IndexByteString", "internal/bytealg.IndexString"], named := ["unicode/utf8.first", "unicode/utf8.acceptRanges", "internal/bytealg.MaxLen"], apart := false, laid := [("unicode/utf8.acceptRanges", laid_unicode_utf8_acceptRanges), ("unicode/utf8.first", laid_unicode_utf8_first)] }
def FnExactRecoverableOfSaid : Prop := fnExactRecoverableOfRow.holds Tryd.pinned (OpenSpec.ofChange fnExactRecoverableOfSpec)

/-- ITS FALSE NEIGHBOUR: 'it returns false'. Refute it at one input. -/
def fnExactRecoverableOfWrong : ChangeSpec := { name := "fnExactRecoverableOf", fn := fun _ => fun
  | [d] => { results := [.lit (.bool false)], args := [d] }
  | _ => none }
def FnExactRecoverableOfWrongFalsely : Prop := fnExactRecoverableOfRow.holds Tryd.pinned (OpenSpec.ofChange fnExactRecoverableOfWrong)

/-- 'laws.FnExactReadsFrom': WHATEVER THE INPUT: true; the input reads as it did. -/
def fnExactReadsFromSpec : ChangeSpec := { name := "fnExactReadsFrom", fn := fun _ => fun
  | [d] => { results := [.lit (.bool true)], args := [d] }
  | _ => none }
def fnExactReadsFromRow : OpenClaim := { program := "ytobkiheihjdanaadoor", sum := "6019d2c5e2942718bb5e55794f6008d699699960239da360ead3046494315494", func := "loop.example/g00218/laws.FnExactReadsFrom", spec := "fnExactReadsFrom", inPlace := ["internal/bytealg.IndexByteString", "internal/bytealg.IndexString"], named := ["unicode/utf8.first", "unicode/utf8.acceptRanges", "internal/bytealg.MaxLen"], apart := false, laid := [("unicode/utf8.acceptRanges", laid_unicode_utf8_acceptRanges), ("unicode/utf8.first", laid_unicode_utf8_first)] }
def FnExactReadsFromSaid : Prop := fnExactReadsFromRow.holds Tryd.pinned (OpenSpec.ofChange fnExactReadsFromSpec)

/-- ITS FALSE NEIGHBOUR: 'it returns false'. Refute it at one input. -/
def fnExactReadsFromWrong : ChangeSpec := { name := "fnExactReadsFrom", fn := fun _ => fun
  | [d] => { results := [.lit (.bool false)], args := [d] }
  | _ => none }
def FnExactReadsFromWrongFalsely : Prop := fnExactReadsFromRow.holds Tryd.pinned (OpenSpec.ofChange fnExactReadsFromWrong)

/-- 'laws.FnExactIsTwoPhase': WHATEVER THE INPUT: true; the input reads as it did. -/
def fnExactIsTwoPhaseSpec : ChangeSpec := { name := "fnExactIsTwoPhase", fn := fun _ => fun
  | [d1, d2] => { results := [.lit (.bool true)], args := [d1, d2] }
  | _ => none }
def fnExactIsTwoPhaseRow : OpenClaim := { program := "ytobkiheihjdanaadoor", sum := "6019d2c5e2942718bb5e55794f6008d699699960239da360ead3046494315494", func := "loop.example/g00218/laws.FnExactIsTwoPhase", spec := "fnExactIsTwoPhase", inPlace := ["internal/bytealg.IndexByteString", "internal/bytealg.IndexString"], unfollowed := true, recurses := true, named := ["unicode/utf8.first", "unicode/utf8.acceptRanges", "internal/bytealg.MaxLen"], apart := false, laid := [("unicode/utf8.acceptRanges", laid_unicode_utf8_acceptRanges), ("unicode/utf8.first", laid_unicode_utf8_first)] }
def FnExactIsTwoPhaseSaid : Prop := fnExactIsTwoPhaseRow.holds Tryd.pinned (OpenSpec.ofChange fnExactIsTwoPhaseSpec)

/-- ITS FALSE NEIGHBOUR: 'it returns false'. Refute it at one input. -/
def fnExactIsTwoPhaseWrong : ChangeSpec := { name := "fnExactIsTwoPhase", fn := fun _ => fun
  | [d1, d2] => { results := [.lit (.bool false)], args := [d1, d2] }
  | _ => none }
def FnExactIsTwoPhaseWrongFalsely : Prop := fnExactIsTwoPhaseRow.holds Tryd.pinned (OpenSpec.ofChange fnExactIsTwoPhaseWrong)

/-- 'laws.FnExactSerialOps': WHATEVER THE INPUT: true; the input reads as it did. -/
def fnExactSerialOpsSpec : ChangeSpec := { name := "fnExactSerialOps", fn := fun _ => fun
  | [d1, d2] => { results := [.lit (.bool true)], args := [d1, d2] }
  | _ => none }
def fnExactSerialOpsRow : OpenClaim := { program := "ytobkiheihjdanaadoor", sum := "6019d2c5e2942718bb5e55794f6008d699699960239da360ead3046494315494", func := "loop.example/g00218/laws.FnExactSerialOps", spec := "fnExactSerialOps", inPlace := ["internal/bytealg.IndexByteString", "internal/bytealg.IndexString"], recurses := true, named := ["unicode/utf8.first", "unicode/utf8.acceptRanges", "internal/bytealg.MaxLen"], apart := false, laid := [("unicode/utf8.acceptRanges", laid_unicode_utf8_acceptRanges), ("unicode/utf8.first", laid_unicode_utf8_first)] }
def FnExactSerialOpsSaid : Prop := fnExactSerialOpsRow.holds Tryd.pinned (OpenSpec.ofChange fnExactSerialOpsSpec)

/-- ITS FALSE NEIGHBOUR: 'it returns false'. Refute it at one input. -/
def fnExactSerialOpsWrong : ChangeSpec := { name := "fnExactSerialOps", fn := fun _ => fun
  | [d1, d2] => { results := [.lit (.bool false)], args := [d1, d2] }
  | _ => none }
def FnExactSerialOpsWrongFalsely : Prop := fnExactSerialOpsRow.holds Tryd.pinned (OpenSpec.ofChange fnExactSerialOpsWrong)

/-- 'laws.FnExactConflictsOf': WHATEVER THE INPUT: true; the input reads as it did. -/
def fnExactConflictsOfSpec : ChangeSpec := { name := "fnExactConflictsOf", fn := fun _ => fun
  | [d] => { results := [.lit (.bool true)], args := [d] }
  | _ => none }
def fnExactConflictsOfRow : OpenClaim := { program := "ytobkiheihjdanaadoor", sum := "6019d2c5e2942718bb5e55794f6008d699699960239da360ead3046494315494", func := "loop.example/g00218/laws.FnExactConflictsOf", spec := "fnExactConflictsOf", inPlace := ["internal/bytealg.IndexByteString", "internal/bytealg.IndexString"], unfollowed := true, recurses := true, named := ["unicode/utf8.first", "unicode/utf8.acceptRanges", "internal/bytealg.MaxLen"], apart := false, laid := [("unicode/utf8.acceptRanges", laid_unicode_utf8_acceptRanges), ("unicode/utf8.first", laid_unicode_utf8_first)] }
def FnExactConflictsOfSaid : Prop := fnExactConflictsOfRow.holds Tryd.pinned (OpenSpec.ofChange fnExactConflictsOfSpec)

/-- ITS FALSE NEIGHBOUR: 'it returns false'. Refute it at one input. -/
def fnExactConflictsOfWrong : ChangeSpec := { name := "fnExactConflictsOf", fn := fun _ => fun
  | [d] => { results := [.lit (.bool false)], args := [d] }
  | _ => none }
def FnExactConflictsOfWrongFalsely : Prop := fnExactConflictsOfRow.holds Tryd.pinned (OpenSpec.ofChange fnExactConflictsOfWrong)

/-- 'laws.FnExactSerialOrder': WHATEVER THE INPUT: true; the input reads as it did. -/
def fnExactSerialOrderSpec : ChangeSpec := { name := "fnExactSerialOrder", fn := fun _ => fun
  | [d] => { results := [.lit (.bool true)], args := [d] }
  | _ => none }
def fnExactSerialOrderRow : OpenClaim := { program := "ytobkiheihjdanaadoor", sum := "6019d2c5e2942718bb5e55794f6008d699699960239da360ead3046494315494", func := "loop.example/g00218/laws.FnExactSerialOrder", spec := "fnExactSerialOrder", inPlace := ["internal/bytealg.IndexByteString", "internal/bytealg.IndexString"], unfollowed := true, recurses := true, named := ["unicode/utf8.first", "unicode/utf8.acceptRanges", "internal/bytealg.MaxLen"], apart := false, laid := [("unicode/utf8.acceptRanges", laid_unicode_utf8_acceptRanges), ("unicode/utf8.first", laid_unicode_utf8_first)] }
def FnExactSerialOrderSaid : Prop := fnExactSerialOrderRow.holds Tryd.pinned (OpenSpec.ofChange fnExactSerialOrderSpec)

/-- ITS FALSE NEIGHBOUR: 'it returns false'. Refute it at one input. -/
def fnExactSerialOrderWrong : ChangeSpec := { name := "fnExactSerialOrder", fn := fun _ => fun
  | [d] => { results := [.lit (.bool false)], args := [d] }
  | _ => none }
def FnExactSerialOrderWrongFalsely : Prop := fnExactSerialOrderRow.holds Tryd.pinned (OpenSpec.ofChange fnExactSerialOrderWrong)

/-- 'laws.FnExactRunOps': WHATEVER THE INPUT: true; the input reads as it did. -/
def fnExactRunOpsSpec : ChangeSpec := { name := "fnExactRunOps", fn := fun _ => fun
  | [d] => { results := [.lit (.bool true)], args := [d] }
  | _ => none }
def fnExactRunOpsRow : OpenClaim := { program := "ytobkiheihjdanaadoor", sum := "6019d2c5e2942718bb5e55794f6008d699699960239da360ead3046494315494", func := "loop.example/g00218/laws.FnExactRunOps", spec := "fnExactRunOps", inPlace := ["internal/bytealg.IndexByteString", "internal/bytealg.IndexString"], unfollowed := true, recurses := true, named := ["unicode/utf8.first", "unicode/utf8.acceptRanges", "internal/strconv.uint64pow10", "math/bits.deBruijn32tab", "math/bits.deBruijn64tab", "internal/bytealg.MaxLen"], apart := false, laid := [("math/bits.deBruijn32tab", laid_math_bits_deBruijn32tab), ("math/bits.deBruijn64tab", laid_math_bits_deBruijn64tab), ("internal/strconv.uint64pow10", laid_internal_strconv_uint64pow10), ("unicode/utf8.acceptRanges", laid_unicode_utf8_acceptRanges), ("unicode/utf8.first", laid_unicode_utf8_first)] }
def FnExactRunOpsSaid : Prop := fnExactRunOpsRow.holds Tryd.pinned (OpenSpec.ofChange fnExactRunOpsSpec)

/-- ITS FALSE NEIGHBOUR: 'it returns false'. Refute it at one input. -/
def fnExactRunOpsWrong : ChangeSpec := { name := "fnExactRunOps", fn := fun _ => fun
  | [d] => { results := [.lit (.bool false)], args := [d] }
  | _ => none }
def FnExactRunOpsWrongFalsely : Prop := fnExactRunOpsRow.holds Tryd.pinned (OpenSpec.ofChange fnExactRunOpsWrong)

/- THE SECOND FORM. 'bulk': how many values and letters a reading holds, each counted each time it is reached (what is shared counts as often as it is met; a slice's spare places count too). A statement '..UptoSaid' is the law's where the arguments, and the package variables that the reading takes, are together of bulk at most 1048576: NARROWER than '..Said'. Prove '..Said' where nothing that the law and all that it calls make is longer than what came in: it says more and counts as full. Else prove '..UptoSaid'. A law counts once. -/
mutual
def uptoBulk {H : Type} : DataW H → Nat
  | .lit (.string bytes) => bytes.length + 1
  | .lit _ => 1
  | .nil => 1
  | .ptr d => uptoBulk d + 1
  | .slice elems spare => uptoBulkAll elems + uptoBulkAll spare + 1
  | .agg parts => uptoBulkAll parts + 1
  | .iface _ d => uptoBulk d + 1
  | .map entries => uptoBulkEntries entries + 1
  | .held _ => 1
def uptoBulkAll {H : Type} : List (DataW H) → Nat
  | [] => 0
  | d :: r => uptoBulk d + uptoBulkAll r
def uptoBulkEntries {H : Type} : List (Lit × DataW H) → Nat
  | [] => 0
  | x :: r => uptoBulkEntry x + uptoBulkEntries r
def uptoBulkEntry {H : Type} : Lit × DataW H → Nat
  | (.string bytes, d) => bytes.length + uptoBulk d + 1
  | (_, d) => uptoBulk d + 1
 end
def uptoSmall : (H : Type) → List (DataW H) → Bool := fun _ ds => decide (uptoBulkAll ds ≤ 1048576)
def OpenSpec.upto (s : _root_.Go.ChangeSpec) : _root_.Go.OpenSpec := { _root_.Go.OpenSpec.ofChange s with cond := some uptoSmall }

/-- 'laws.FnExactGoodOps', WHERE WHAT IT READS IS OF BULK AT MOST 1048576: true; the input reads as it did. -/
def fnExactGoodOpsUptoRow : OpenClaim := { program := "ytobkiheihjdanaadoor", sum := "6019d2c5e2942718bb5e55794f6008d699699960239da360ead3046494315494", func := "loop.example/g00218/laws.FnExactGoodOps", spec := "fnExactGoodOps", inPlace := ["internal/bytealg.IndexByteString", "internal/bytealg.IndexString"], named := ["unicode/utf8.first", "unicode/utf8.acceptRanges", "internal/bytealg.MaxLen"], apart := false, laid := [("unicode/utf8.acceptRanges", laid_unicode_utf8_acceptRanges), ("unicode/utf8.first", laid_unicode_utf8_first)], narrowed := true }
def FnExactGoodOpsUptoSaid : Prop := fnExactGoodOpsUptoRow.holds Tryd.pinned (OpenSpec.upto fnExactGoodOpsSpec)

/-- 'laws.FnExactRecoverableOf', WHERE WHAT IT READS IS OF BULK AT MOST 1048576: true; the input reads as it did. -/
def fnExactRecoverableOfUptoRow : OpenClaim := { program := "ytobkiheihjdanaadoor", sum := "6019d2c5e2942718bb5e55794f6008d699699960239da360ead3046494315494", func := "loop.example/g00218/laws.FnExactRecoverableOf", spec := "fnExactRecoverableOf", inPlace := ["internal/bytealg.IndexByteString", "internal/bytealg.IndexString"], named := ["unicode/utf8.first", "unicode/utf8.acceptRanges", "internal/bytealg.MaxLen"], apart := false, laid := [("unicode/utf8.acceptRanges", laid_unicode_utf8_acceptRanges), ("unicode/utf8.first", laid_unicode_utf8_first)], narrowed := true }
def FnExactRecoverableOfUptoSaid : Prop := fnExactRecoverableOfUptoRow.holds Tryd.pinned (OpenSpec.upto fnExactRecoverableOfSpec)

/-- 'laws.FnExactReadsFrom', WHERE WHAT IT READS IS OF BULK AT MOST 1048576: true; the input reads as it did. -/
def fnExactReadsFromUptoRow : OpenClaim := { program := "ytobkiheihjdanaadoor", sum := "6019d2c5e2942718bb5e55794f6008d699699960239da360ead3046494315494", func := "loop.example/g00218/laws.FnExactReadsFrom", spec := "fnExactReadsFrom", inPlace := ["internal/bytealg.IndexByteString", "internal/bytealg.IndexString"], named := ["unicode/utf8.first", "unicode/utf8.acceptRanges", "internal/bytealg.MaxLen"], apart := false, laid := [("unicode/utf8.acceptRanges", laid_unicode_utf8_acceptRanges), ("unicode/utf8.first", laid_unicode_utf8_first)], narrowed := true }
def FnExactReadsFromUptoSaid : Prop := fnExactReadsFromUptoRow.holds Tryd.pinned (OpenSpec.upto fnExactReadsFromSpec)

/-- 'laws.FnExactIsTwoPhase', WHERE WHAT IT READS IS OF BULK AT MOST 1048576: true; the input reads as it did. -/
def fnExactIsTwoPhaseUptoRow : OpenClaim := { program := "ytobkiheihjdanaadoor", sum := "6019d2c5e2942718bb5e55794f6008d699699960239da360ead3046494315494", func := "loop.example/g00218/laws.FnExactIsTwoPhase", spec := "fnExactIsTwoPhase", inPlace := ["internal/bytealg.IndexByteString", "internal/bytealg.IndexString"], unfollowed := true, recurses := true, named := ["unicode/utf8.first", "unicode/utf8.acceptRanges", "internal/bytealg.MaxLen"], apart := false, laid := [("unicode/utf8.acceptRanges", laid_unicode_utf8_acceptRanges), ("unicode/utf8.first", laid_unicode_utf8_first)], narrowed := true }
def FnExactIsTwoPhaseUptoSaid : Prop := fnExactIsTwoPhaseUptoRow.holds Tryd.pinned (OpenSpec.upto fnExactIsTwoPhaseSpec)

/-- 'laws.FnExactSerialOps', WHERE WHAT IT READS IS OF BULK AT MOST 1048576: true; the input reads as it did. -/
def fnExactSerialOpsUptoRow : OpenClaim := { program := "ytobkiheihjdanaadoor", sum := "6019d2c5e2942718bb5e55794f6008d699699960239da360ead3046494315494", func := "loop.example/g00218/laws.FnExactSerialOps", spec := "fnExactSerialOps", inPlace := ["internal/bytealg.IndexByteString", "internal/bytealg.IndexString"], recurses := true, named := ["unicode/utf8.first", "unicode/utf8.acceptRanges", "internal/bytealg.MaxLen"], apart := false, laid := [("unicode/utf8.acceptRanges", laid_unicode_utf8_acceptRanges), ("unicode/utf8.first", laid_unicode_utf8_first)], narrowed := true }
def FnExactSerialOpsUptoSaid : Prop := fnExactSerialOpsUptoRow.holds Tryd.pinned (OpenSpec.upto fnExactSerialOpsSpec)

/-- 'laws.FnExactConflictsOf', WHERE WHAT IT READS IS OF BULK AT MOST 1048576: true; the input reads as it did. -/
def fnExactConflictsOfUptoRow : OpenClaim := { program := "ytobkiheihjdanaadoor", sum := "6019d2c5e2942718bb5e55794f6008d699699960239da360ead3046494315494", func := "loop.example/g00218/laws.FnExactConflictsOf", spec := "fnExactConflictsOf", inPlace := ["internal/bytealg.IndexByteString", "internal/bytealg.IndexString"], unfollowed := true, recurses := true, named := ["unicode/utf8.first", "unicode/utf8.acceptRanges", "internal/bytealg.MaxLen"], apart := false, laid := [("unicode/utf8.acceptRanges", laid_unicode_utf8_acceptRanges), ("unicode/utf8.first", laid_unicode_utf8_first)], narrowed := true }
def FnExactConflictsOfUptoSaid : Prop := fnExactConflictsOfUptoRow.holds Tryd.pinned (OpenSpec.upto fnExactConflictsOfSpec)

/-- 'laws.FnExactSerialOrder', WHERE WHAT IT READS IS OF BULK AT MOST 1048576: true; the input reads as it did. -/
def fnExactSerialOrderUptoRow : OpenClaim := { program := "ytobkiheihjdanaadoor", sum := "6019d2c5e2942718bb5e55794f6008d699699960239da360ead3046494315494", func := "loop.example/g00218/laws.FnExactSerialOrder", spec := "fnExactSerialOrder", inPlace := ["internal/bytealg.IndexByteString", "internal/bytealg.IndexString"], unfollowed := true, recurses := true, named := ["unicode/utf8.first", "unicode/utf8.acceptRanges", "internal/bytealg.MaxLen"], apart := false, laid := [("unicode/utf8.acceptRanges", laid_unicode_utf8_acceptRanges), ("unicode/utf8.first", laid_unicode_utf8_first)], narrowed := true }
def FnExactSerialOrderUptoSaid : Prop := fnExactSerialOrderUptoRow.holds Tryd.pinned (OpenSpec.upto fnExactSerialOrderSpec)

/-- 'laws.FnExactRunOps', WHERE WHAT IT READS IS OF BULK AT MOST 1048576: true; the input reads as it did. -/
def fnExactRunOpsUptoRow : OpenClaim := { program := "ytobkiheihjdanaadoor", sum := "6019d2c5e2942718bb5e55794f6008d699699960239da360ead3046494315494", func := "loop.example/g00218/laws.FnExactRunOps", spec := "fnExactRunOps", inPlace := ["internal/bytealg.IndexByteString", "internal/bytealg.IndexString"], unfollowed := true, recurses := true, named := ["unicode/utf8.first", "unicode/utf8.acceptRanges", "internal/strconv.uint64pow10", "math/bits.deBruijn32tab", "math/bits.deBruijn64tab", "internal/bytealg.MaxLen"], apart := false, laid := [("math/bits.deBruijn32tab", laid_math_bits_deBruijn32tab), ("math/bits.deBruijn64tab", laid_math_bits_deBruijn64tab), ("internal/strconv.uint64pow10", laid_internal_strconv_uint64pow10), ("unicode/utf8.acceptRanges", laid_unicode_utf8_acceptRanges), ("unicode/utf8.first", laid_unicode_utf8_first)], narrowed := true }
def FnExactRunOpsUptoSaid : Prop := fnExactRunOpsUptoRow.holds Tryd.pinned (OpenSpec.upto fnExactRunOpsSpec)

end Rows
end Go.Proofs.YtobkiheihjdanaaDoor
