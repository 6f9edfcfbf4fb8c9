/-
  NARROWER THAN 'FOR EVERY INPUT', by the rows' own cells (each row's printed sentence says how): FnExactGoodLocks: laid · FnExactHolderOf: laid · FnExactReleaseAll: laid · FnExactAskLock: laid · FnExactPlayLocks: laid · FnExactWaitsFor: laid.
  DERIVED. THE GIVEN ROWS OF THIS SEAT. 6 by the template 'for every input the law returns true; each argument reads behind the call as it read before'; 0 by the template 'total and deterministic' (their statements: YtjckjjpldplckaaDoorTotals.lean).
  GIVEN WITH THE SEED: the statements are not yours to turn. If you find one false, say at which input.
  Laid BY PROGRAM, IN A SANDBOX (cutbox-rows.mjs): the forced cells as the released guide's own fill.sh prints them over the translation e81635ae26ee3158… (all of the seat's roots in one cut). By AI agents, Wed Nov 11 2026. No macro, syntax, notation, axiom, sorry.
-/
import Derived.Test.YtjckjjpldplckaaDoorChecked
import GoSem.PinnedTables
import GoSem.Claim
import GoSem.ClaimJoined
import GoSem.ClaimMapViews
import Derived.JoinedTies
import Derived.KernelRfl
namespace Go.Proofs.YtjckjjpldplckaaDoor
/- THE CELL 'sum', in the pinned program and in every row, IS THE sha256 OF THE DUMP (.gsa) THAT YtjckjjpldplckaaDoorProg.lean LOADS. Nothing in Lean hashes anything: it is a label: what it is worth is what the hold of that sum in a sandbox is worth. -/
noncomputable def Tryd.pinned : Pinned := { name := "ytjckjjpldplckaadoor", sum := "e81635ae26ee315859ac0bdaa92be6bb51d6c0e6764fe57fa4b439b466b1531a", checked := Tryd.checked }
namespace Rows
def none {H : Type} : Left H := { results := [], args := [] }

/- WHAT THE LISTED PACKAGE-LEVEL VARIABLES READ AS WHEN THE CALL BEGINS. Each datum BY PROGRAM (the guide's laid-datum.mjs) off the statement by which the dump's own 'gosem.cut.vars' lays the variable. In a bare row this is a premise. The card (YtjckjjpldplckaaDoorCards.lean) ties it to the program's text. -/
def laid_unicode_utf8_acceptRanges {H : Type} : DataW H := .agg [.agg [.lit (.int .u8 128), .lit (.int .u8 191)], .agg [.lit (.int .u8 160), .lit (.int .u8 191)], .agg [.lit (.int .u8 128), .lit (.int .u8 159)], .agg [.lit (.int .u8 144), .lit (.int .u8 191)], .agg [.lit (.int .u8 128), .lit (.int .u8 143)], .agg [.lit (.int .u8 0), .lit (.int .u8 0)], .agg [.lit (.int .u8 0), .lit (.int .u8 0)], .agg [.lit (.int .u8 0), .lit (.int .u8 0)], .agg [.lit (.int .u8 0), .lit (.int .u8 0)], .agg [.lit (.int .u8 0), .lit (.int .u8 0)], .agg [.lit (.int .u8 0), .lit (.int .u8 0)], .agg [.lit (.int .u8 0), .lit (.int .u8 0)], .agg [.lit (.int .u8 0), .lit (.int .u8 0)], .agg [.lit (.int .u8 0), .lit (.int .u8 0)], .agg [.lit (.int .u8 0), .lit (.int .u8 0)], .agg [.lit (.int .u8 0), .lit (.int .u8 0)]]
/-- One of Go's own tables, pinned by name: the form's constant. -/
def laid_unicode_utf8_first : DataW Unit := Go.Pinned.utf8First

/-- 'laws.FnExactGoodLocks': WHATEVER THE INPUT: true; the input reads as it did. -/
def fnExactGoodLocksSpec : ChangeSpec := { name := "fnExactGoodLocks", fn := fun _ => fun
  | [d] => { results := [.lit (.bool true)], args := [d] }
  | _ => none }
def fnExactGoodLocksRow : OpenClaim := { program := "ytjckjjpldplckaadoor", sum := "e81635ae26ee315859ac0bdaa92be6bb51d6c0e6764fe57fa4b439b466b1531a", func := "loop.example/g00218/laws.FnExactGoodLocks", spec := "fnExactGoodLocks", inPlace := ["internal/bytealg.IndexByteString", "internal/bytealg.IndexString"], unfollowed := true, recurses := true, named := ["unicode/utf8.first", "unicode/utf8.acceptRanges", "internal/bytealg.MaxLen"], apart := false, laid := [("unicode/utf8.acceptRanges", laid_unicode_utf8_acceptRanges), ("unicode/utf8.first", laid_unicode_utf8_first)] }
def FnExactGoodLocksSaid : Prop := fnExactGoodLocksRow.holds Tryd.pinned (OpenSpec.ofChange fnExactGoodLocksSpec)

/-- ITS FALSE NEIGHBOUR: 'it returns false'. Refute it at one input. -/
def fnExactGoodLocksWrong : ChangeSpec := { name := "fnExactGoodLocks", fn := fun _ => fun
  | [d] => { results := [.lit (.bool false)], args := [d] }
  | _ => none }
def FnExactGoodLocksWrongFalsely : Prop := fnExactGoodLocksRow.holds Tryd.pinned (OpenSpec.ofChange fnExactGoodLocksWrong)

/-- 'laws.FnExactHolderOf': WHATEVER THE INPUT: true; the input reads as it did. -/
def fnExactHolderOfSpec : ChangeSpec := { name := "fnExactHolderOf", fn := fun _ => fun
  | [d1, d2] => { results := [.lit (.bool true)], args := [d1, d2] }
  | _ => none }
def fnExactHolderOfRow : OpenClaim := { program := "ytjckjjpldplckaadoor", sum := "e81635ae26ee315859ac0bdaa92be6bb51d6c0e6764fe57fa4b439b466b1531a", func := "loop.example/g00218/laws.FnExactHolderOf", spec := "fnExactHolderOf", inPlace := ["internal/bytealg.IndexByteString", "internal/bytealg.IndexString"], unfollowed := true, recurses := true, named := ["unicode/utf8.first", "unicode/utf8.acceptRanges", "internal/bytealg.MaxLen"], apart := false, laid := [("unicode/utf8.acceptRanges", laid_unicode_utf8_acceptRanges), ("unicode/utf8.first", laid_unicode_utf8_first)] }
def FnExactHolderOfSaid : Prop := fnExactHolderOfRow.holds Tryd.pinned (OpenSpec.ofChange fnExactHolderOfSpec)

/-- ITS FALSE NEIGHBOUR: 'it returns false'. Refute it at one input. -/
def fnExactHolderOfWrong : ChangeSpec := { name := "fnExactHolderOf", fn := fun _ => fun
  | [d1, d2] => { results := [.lit (.bool false)], args := [d1, d2] }
  | _ => none }
def FnExactHolderOfWrongFalsely : Prop := fnExactHolderOfRow.holds Tryd.pinned (OpenSpec.ofChange fnExactHolderOfWrong)

/-- 'laws.FnExactReleaseAll': WHATEVER THE INPUT: true; the input reads as it did. -/
def fnExactReleaseAllSpec : ChangeSpec := { name := "fnExactReleaseAll", fn := fun _ => fun
  | [d1, d2] => { results := [.lit (.bool true)], args := [d1, d2] }
  | _ => none }
def fnExactReleaseAllRow : OpenClaim := { program := "ytjckjjpldplckaadoor", sum := "e81635ae26ee315859ac0bdaa92be6bb51d6c0e6764fe57fa4b439b466b1531a", func := "loop.example/g00218/laws.FnExactReleaseAll", spec := "fnExactReleaseAll", inPlace := ["internal/bytealg.IndexByteString", "internal/bytealg.IndexString", "slices.overlaps[loop.example/g00218/impl.Hold]"], unfollowed := true, recurses := true, named := ["unicode/utf8.first", "unicode/utf8.acceptRanges", "internal/bytealg.MaxLen"], apart := false, laid := [("unicode/utf8.acceptRanges", laid_unicode_utf8_acceptRanges), ("unicode/utf8.first", laid_unicode_utf8_first)] }
def FnExactReleaseAllSaid : Prop := fnExactReleaseAllRow.holds Tryd.pinned (OpenSpec.ofChange fnExactReleaseAllSpec)

/-- ITS FALSE NEIGHBOUR: 'it returns false'. Refute it at one input. -/
def fnExactReleaseAllWrong : ChangeSpec := { name := "fnExactReleaseAll", fn := fun _ => fun
  | [d1, d2] => { results := [.lit (.bool false)], args := [d1, d2] }
  | _ => none }
def FnExactReleaseAllWrongFalsely : Prop := fnExactReleaseAllRow.holds Tryd.pinned (OpenSpec.ofChange fnExactReleaseAllWrong)

/-- 'laws.FnExactAskLock': WHATEVER THE INPUT: true; the input reads as it did. -/
def fnExactAskLockSpec : ChangeSpec := { name := "fnExactAskLock", fn := fun _ => fun
  | [d1, d2, d3, d4] => { results := [.lit (.bool true)], args := [d1, d2, d3, d4] }
  | _ => none }
def fnExactAskLockRow : OpenClaim := { program := "ytjckjjpldplckaadoor", sum := "e81635ae26ee315859ac0bdaa92be6bb51d6c0e6764fe57fa4b439b466b1531a", func := "loop.example/g00218/laws.FnExactAskLock", spec := "fnExactAskLock", inPlace := ["internal/bytealg.IndexByteString", "internal/bytealg.IndexString", "internal/bytealg.abigen_runtime_cmpstring", "slices.overlaps[loop.example/g00218/impl.Lock]", "slices.overlaps[loop.example/g00218/impl.Hold]"], unfollowed := true, recurses := true, named := ["unicode/utf8.first", "unicode/utf8.acceptRanges", "internal/bytealg.MaxLen"], apart := false, laid := [("unicode/utf8.acceptRanges", laid_unicode_utf8_acceptRanges), ("unicode/utf8.first", laid_unicode_utf8_first)] }
def FnExactAskLockSaid : Prop := fnExactAskLockRow.holds Tryd.pinned (OpenSpec.ofChange fnExactAskLockSpec)

/-- ITS FALSE NEIGHBOUR: 'it returns false'. Refute it at one input. -/
def fnExactAskLockWrong : ChangeSpec := { name := "fnExactAskLock", fn := fun _ => fun
  | [d1, d2, d3, d4] => { results := [.lit (.bool false)], args := [d1, d2, d3, d4] }
  | _ => none }
def FnExactAskLockWrongFalsely : Prop := fnExactAskLockRow.holds Tryd.pinned (OpenSpec.ofChange fnExactAskLockWrong)

/-- 'laws.FnExactPlayLocks': WHATEVER THE INPUT: true; the input reads as it did. -/
def fnExactPlayLocksSpec : ChangeSpec := { name := "fnExactPlayLocks", fn := fun _ => fun
  | [d] => { results := [.lit (.bool true)], args := [d] }
  | _ => none }
def fnExactPlayLocksRow : OpenClaim := { program := "ytjckjjpldplckaadoor", sum := "e81635ae26ee315859ac0bdaa92be6bb51d6c0e6764fe57fa4b439b466b1531a", func := "loop.example/g00218/laws.FnExactPlayLocks", spec := "fnExactPlayLocks", inPlace := ["slices.overlaps[loop.example/g00218/impl.Hold]", "internal/bytealg.IndexByteString", "internal/bytealg.IndexString", "internal/bytealg.abigen_runtime_cmpstring", "slices.overlaps[loop.example/g00218/impl.Lock]"], unfollowed := true, recurses := true, named := ["unicode/utf8.first", "unicode/utf8.acceptRanges", "internal/bytealg.MaxLen"], apart := false, laid := [("unicode/utf8.acceptRanges", laid_unicode_utf8_acceptRanges), ("unicode/utf8.first", laid_unicode_utf8_first)] }
def FnExactPlayLocksSaid : Prop := fnExactPlayLocksRow.holds Tryd.pinned (OpenSpec.ofChange fnExactPlayLocksSpec)

/-- ITS FALSE NEIGHBOUR: 'it returns false'. Refute it at one input. -/
def fnExactPlayLocksWrong : ChangeSpec := { name := "fnExactPlayLocks", fn := fun _ => fun
  | [d] => { results := [.lit (.bool false)], args := [d] }
  | _ => none }
def FnExactPlayLocksWrongFalsely : Prop := fnExactPlayLocksRow.holds Tryd.pinned (OpenSpec.ofChange fnExactPlayLocksWrong)

/-- 'laws.FnExactWaitsFor': WHATEVER THE INPUT: true; the input reads as it did. -/
def fnExactWaitsForSpec : ChangeSpec := { name := "fnExactWaitsFor", fn := fun _ => fun
  | [d] => { results := [.lit (.bool true)], args := [d] }
  | _ => none }
def fnExactWaitsForRow : OpenClaim := { program := "ytjckjjpldplckaadoor", sum := "e81635ae26ee315859ac0bdaa92be6bb51d6c0e6764fe57fa4b439b466b1531a", func := "loop.example/g00218/laws.FnExactWaitsFor", spec := "fnExactWaitsFor", inPlace := ["internal/bytealg.IndexByteString", "internal/bytealg.IndexString"], unfollowed := true, recurses := true, named := ["unicode/utf8.first", "unicode/utf8.acceptRanges", "internal/bytealg.MaxLen"], apart := false, laid := [("unicode/utf8.acceptRanges", laid_unicode_utf8_acceptRanges), ("unicode/utf8.first", laid_unicode_utf8_first)] }
def FnExactWaitsForSaid : Prop := fnExactWaitsForRow.holds Tryd.pinned (OpenSpec.ofChange fnExactWaitsForSpec)

/-- ITS FALSE NEIGHBOUR: 'it returns false'. Refute it at one input. -/
def fnExactWaitsForWrong : ChangeSpec := { name := "fnExactWaitsFor", fn := fun _ => fun
  | [d] => { results := [.lit (.bool false)], args := [d] }
  | _ => none }
def FnExactWaitsForWrongFalsely : Prop := fnExactWaitsForRow.holds Tryd.pinned (OpenSpec.ofChange fnExactWaitsForWrong)

/- THE SECOND FORM. 'bulk': how many values and letters a reading holds, each counted each time it is reached (what is shared counts as often as it is met; a slice's spare places count too). A statement '..UptoSaid' is the law's where the arguments, and the package variables that the reading takes, are together of bulk at most 1048576: NARROWER than '..Said'. Prove '..Said' where nothing that the law and all that it calls make is longer than what came in: it says more and counts as full. Else prove '..UptoSaid'. A law counts once. -/
mutual
def uptoBulk {H : Type} : DataW H → Nat
  | .lit (.string bytes) => bytes.length + 1
  | .lit _ => 1
  | .nil => 1
  | .ptr d => uptoBulk d + 1
  | .slice elems spare => uptoBulkAll elems + uptoBulkAll spare + 1
  | .agg parts => uptoBulkAll parts + 1
  | .iface _ d => uptoBulk d + 1
  | .map entries => uptoBulkEntries entries + 1
  | .held _ => 1
def uptoBulkAll {H : Type} : List (DataW H) → Nat
  | [] => 0
  | d :: r => uptoBulk d + uptoBulkAll r
def uptoBulkEntries {H : Type} : List (Lit × DataW H) → Nat
  | [] => 0
  | x :: r => uptoBulkEntry x + uptoBulkEntries r
def uptoBulkEntry {H : Type} : Lit × DataW H → Nat
  | (.string bytes, d) => bytes.length + uptoBulk d + 1
  | (_, d) => uptoBulk d + 1
 end
def uptoSmall : (H : Type) → List (DataW H) → Bool := fun _ ds => decide (uptoBulkAll ds ≤ 1048576)
def OpenSpec.upto (s : _root_.Go.ChangeSpec) : _root_.Go.OpenSpec := { _root_.Go.OpenSpec.ofChange s with cond := some uptoSmall }

/-- 'laws.FnExactGoodLocks', WHERE WHAT IT READS IS OF BULK AT MOST 1048576: true; the input reads as it did. -/
def fnExactGoodLocksUptoRow : OpenClaim := { program := "ytjckjjpldplckaadoor", sum := "e81635ae26ee315859ac0bdaa92be6bb51d6c0e6764fe57fa4b439b466b1531a", func := "loop.example/g00218/laws.FnExactGoodLocks", spec := "fnExactGoodLocks", inPlace := ["internal/bytealg.IndexByteString", "internal/bytealg.IndexString"], unfollowed := true, recurses := true, named := ["unicode/utf8.first", "unicode/utf8.acceptRanges", "internal/bytealg.MaxLen"], apart := false, laid := [("unicode/utf8.acceptRanges", laid_unicode_utf8_acceptRanges), ("unicode/utf8.first", laid_unicode_utf8_first)], narrowed := true }
def FnExactGoodLocksUptoSaid : Prop := fnExactGoodLocksUptoRow.holds Tryd.pinned (OpenSpec.upto fnExactGoodLocksSpec)

/-- 'laws.FnExactHolderOf', WHERE WHAT IT READS IS OF BULK AT MOST 1048576: true; the input reads as it did. -/
def fnExactHolderOfUptoRow : OpenClaim := { program := "ytjckjjpldplckaadoor", sum := "e81635ae26ee315859ac0bdaa92be6bb51d6c0e6764fe57fa4b439b466b1531a", func := "loop.example/g00218/laws.FnExactHolderOf", spec := "fnExactHolderOf", inPlace := ["internal/bytealg.IndexByteString", "internal/bytealg.IndexString"], unfollowed := true, recurses := true, named := ["unicode/utf8.first", "unicode/utf8.acceptRanges", "internal/bytealg.MaxLen"], apart := false, laid := [("unicode/utf8.acceptRanges", laid_unicode_utf8_acceptRanges), ("unicode/utf8.first", laid_unicode_utf8_first)], narrowed := true }
def FnExactHolderOfUptoSaid : Prop := fnExactHolderOfUptoRow.holds Tryd.pinned (OpenSpec.upto fnExactHolderOfSpec)

/-- 'laws.FnExactReleaseAll', WHERE WHAT IT READS IS OF BULK AT MOST 1048576: true; the input reads as it did. -/
def fnExactReleaseAllUptoRow : OpenClaim := { program := "ytjckjjpldplckaadoor", sum := "e81635ae26ee315859ac0bdaa92be6bb51d6c0e6764fe57fa4b439b466b1531a", func := "loop.example/g00218/laws.FnExactReleaseAll", spec := "fnExactReleaseAll", inPlace := ["internal/bytealg.IndexByteString", "internal/bytealg.IndexString", "slices.overlaps[loop.example/g00218/impl.Hold]"], unfollowed := true, recurses := true, named := ["unicode/utf8.first", "unicode/utf8.acceptRanges", "internal/bytealg.MaxLen"], apart := false, laid := [("unicode/utf8.acceptRanges", laid_unicode_utf8_acceptRanges), ("unicode/utf8.first", laid_unicode_utf8_first)], narrowed := true }
def FnExactReleaseAllUptoSaid : Prop := fnExactReleaseAllUptoRow.holds Tryd.pinned (OpenSpec.upto fnExactReleaseAllSpec)

/-- 'laws.FnExactAskLock', WHERE WHAT IT READS IS OF BULK AT MOST 1048576: true; the input reads as it did. -/
def fnExactAskLockUptoRow : OpenClaim := { program := "ytjckjjpldplckaadoor", sum := "e81635ae26ee315859ac0bdaa92be6bb51d6c0e6764fe57fa4b439b466b1531a", func := "loop.example/g00218/laws.FnExactAskLock", spec := "fnExactAskLock", inPlace := ["internal/bytealg.IndexByteString", "internal/bytealg.IndexString", "internal/bytealg.abigen_runtime_cmpstring", "slices.overlaps[loop.example/g00218/impl.Lock]", "slices.overlaps[loop.example/g00218/impl.Hold]"], unfollowed := true, recurses := true, named := ["unicode/utf8.first", "unicode/utf8.acceptRanges", "internal/bytealg.MaxLen"], apart := false, laid := [("unicode/utf8.acceptRanges", laid_unicode_utf8_acceptRanges), ("unicode/utf8.first", laid_unicode_utf8_first)], narrowed := true }
def FnExactAskLockUptoSaid : Prop := fnExactAskLockUptoRow.holds Tryd.pinned (OpenSpec.upto fnExactAskLockSpec)

/-- 'laws.FnExactPlayLocks', WHERE WHAT IT READS IS OF BULK AT MOST 1048576: true; the input reads as it did. -/
def fnExactPlayLocksUptoRow : OpenClaim := { program := "ytjckjjpldplckaadoor", sum := "e81635ae26ee315859ac0bdaa92be6bb51d6c0e6764fe57fa4b439b466b1531a", func := "loop.example/g00218/laws.FnExactPlayLocks", spec := "fnExactPlayLocks", inPlace := ["slices.overlaps[loop.example/g00218/impl.Hold]", "internal/bytealg.IndexByteString", "internal/bytealg.IndexString", "internal/bytealg.abigen_runtime_cmpstring", "slices.overlaps[loop.example/g00218/impl.Lock]"], unfollowed := true, recurses := true, named := ["unicode/utf8.first", "unicode/utf8.acceptRanges", "internal/bytealg.MaxLen"], apart := false, laid := [("unicode/utf8.acceptRanges", laid_unicode_utf8_acceptRanges), ("unicode/utf8.first", laid_unicode_utf8_first)], narrowed := true }
def FnExactPlayLocksUptoSaid : Prop := fnExactPlayLocksUptoRow.holds Tryd.pinned (OpenSpec.upto fnExactPlayLocksSpec)

/-- 'laws.FnExactWaitsFor', WHERE WHAT IT READS IS OF BULK AT MOST 1048576: true; the input reads as it did. -/
def fnExactWaitsForUptoRow : OpenClaim := { program := "ytjckjjpldplckaadoor", sum := "e81635ae26ee315859ac0bdaa92be6bb51d6c0e6764fe57fa4b439b466b1531a", func := "loop.example/g00218/laws.FnExactWaitsFor", spec := "fnExactWaitsFor", inPlace := ["internal/bytealg.IndexByteString", "internal/bytealg.IndexString"], unfollowed := true, recurses := true, named := ["unicode/utf8.first", "unicode/utf8.acceptRanges", "internal/bytealg.MaxLen"], apart := false, laid := [("unicode/utf8.acceptRanges", laid_unicode_utf8_acceptRanges), ("unicode/utf8.first", laid_unicode_utf8_first)], narrowed := true }
def FnExactWaitsForUptoSaid : Prop := fnExactWaitsForUptoRow.holds Tryd.pinned (OpenSpec.upto fnExactWaitsForSpec)

end Rows
end Go.Proofs.YtjckjjpldplckaaDoor
