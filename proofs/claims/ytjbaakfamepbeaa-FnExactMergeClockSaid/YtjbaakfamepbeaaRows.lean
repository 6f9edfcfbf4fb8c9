/-
  No cell of these rows narrows 'for every input' (looked for: loops, veiled, ifaces, maps, wideKeys, modest, calm, conditions, laid).
  DERIVED. THE GIVEN ROWS OF THIS SEAT. 12 by the template 'for every input the law returns true; each argument reads behind the call as it read before'; 0 by the template 'total and deterministic' (their statements: YtjbaakfamepbeaaTotals.lean).
  GIVEN WITH THE SEED: the statements are not yours to turn. If you find one false, say at which input.
  Laid BY PROGRAM, IN A SANDBOX (cutbox-rows.mjs): the forced cells as the released guide's own fill.sh prints them over the translation 788929ce57f26aad… (all of the seat's roots in one cut). By AI agents, Wed Nov 11 2026. No macro, syntax, notation, axiom, sorry.
-/
import Derived.Test.YtjbaakfamepbeaaChecked
import GoSem.Claim
import GoSem.ClaimJoined
import GoSem.ClaimMapViews
import Derived.JoinedTies
import Derived.KernelRfl
namespace Go.Proofs.Ytjbaakfamepbeaa
/- THE CELL 'sum', in the pinned program and in every row, IS THE sha256 OF THE DUMP (.gsa) THAT YtjbaakfamepbeaaProg.lean LOADS. Nothing in Lean hashes anything: it is a label: what it is worth is what the hold of that sum in a sandbox is worth. -/
noncomputable def Try.pinned : Pinned := { name := "ytjbaakfamepbeaa", sum := "788929ce57f26aad94d9f715b11204b8e2d6b5ee138fc6423af91c2d47a0bd11", checked := Try.checked }
namespace Rows
def none {H : Type} : Left H := { results := [], args := [] }

/-- 'laws.FnExactConstants': WHATEVER THE INPUT: true; the input reads as it did. -/
def fnExactConstantsSpec : ChangeSpec := { name := "fnExactConstants", fn := fun _ => fun
  | [] => { results := [.lit (.bool true)], args := [] }
  | _ => none }
def fnExactConstantsRow : OpenClaim := { program := "ytjbaakfamepbeaa", sum := "788929ce57f26aad94d9f715b11204b8e2d6b5ee138fc6423af91c2d47a0bd11", func := "loop.example/g00218/laws.FnExactConstants", spec := "fnExactConstants", apart := false }
def FnExactConstantsSaid : Prop := fnExactConstantsRow.holds Try.pinned (OpenSpec.ofChange fnExactConstantsSpec)

/-- ITS FALSE NEIGHBOUR: 'it returns false'. Refute it at one input. -/
def fnExactConstantsWrong : ChangeSpec := { name := "fnExactConstants", fn := fun _ => fun
  | [] => { results := [.lit (.bool false)], args := [] }
  | _ => none }
def FnExactConstantsWrongFalsely : Prop := fnExactConstantsRow.holds Try.pinned (OpenSpec.ofChange fnExactConstantsWrong)

/-- 'laws.FnExactGoodTid': WHATEVER THE INPUT: true; the input reads as it did. -/
def fnExactGoodTidSpec : ChangeSpec := { name := "fnExactGoodTid", fn := fun _ => fun
  | [d] => { results := [.lit (.bool true)], args := [d] }
  | _ => none }
def fnExactGoodTidRow : OpenClaim := { program := "ytjbaakfamepbeaa", sum := "788929ce57f26aad94d9f715b11204b8e2d6b5ee138fc6423af91c2d47a0bd11", func := "loop.example/g00218/laws.FnExactGoodTid", spec := "fnExactGoodTid", apart := false }
def FnExactGoodTidSaid : Prop := fnExactGoodTidRow.holds Try.pinned (OpenSpec.ofChange fnExactGoodTidSpec)

/-- ITS FALSE NEIGHBOUR: 'it returns false'. Refute it at one input. -/
def fnExactGoodTidWrong : ChangeSpec := { name := "fnExactGoodTid", fn := fun _ => fun
  | [d] => { results := [.lit (.bool false)], args := [d] }
  | _ => none }
def FnExactGoodTidWrongFalsely : Prop := fnExactGoodTidRow.holds Try.pinned (OpenSpec.ofChange fnExactGoodTidWrong)

/-- 'laws.FnExactUnpackTid': WHATEVER THE INPUT: true; the input reads as it did. -/
def fnExactUnpackTidSpec : ChangeSpec := { name := "fnExactUnpackTid", fn := fun _ => fun
  | [d] => { results := [.lit (.bool true)], args := [d] }
  | _ => none }
def fnExactUnpackTidRow : OpenClaim := { program := "ytjbaakfamepbeaa", sum := "788929ce57f26aad94d9f715b11204b8e2d6b5ee138fc6423af91c2d47a0bd11", func := "loop.example/g00218/laws.FnExactUnpackTid", spec := "fnExactUnpackTid", apart := false }
def FnExactUnpackTidSaid : Prop := fnExactUnpackTidRow.holds Try.pinned (OpenSpec.ofChange fnExactUnpackTidSpec)

/-- ITS FALSE NEIGHBOUR: 'it returns false'. Refute it at one input. -/
def fnExactUnpackTidWrong : ChangeSpec := { name := "fnExactUnpackTid", fn := fun _ => fun
  | [d] => { results := [.lit (.bool false)], args := [d] }
  | _ => none }
def FnExactUnpackTidWrongFalsely : Prop := fnExactUnpackTidRow.holds Try.pinned (OpenSpec.ofChange fnExactUnpackTidWrong)

/-- 'laws.FnExactPackTid': WHATEVER THE INPUT: true; the input reads as it did. -/
def fnExactPackTidSpec : ChangeSpec := { name := "fnExactPackTid", fn := fun _ => fun
  | [d] => { results := [.lit (.bool true)], args := [d] }
  | _ => none }
def fnExactPackTidRow : OpenClaim := { program := "ytjbaakfamepbeaa", sum := "788929ce57f26aad94d9f715b11204b8e2d6b5ee138fc6423af91c2d47a0bd11", func := "loop.example/g00218/laws.FnExactPackTid", spec := "fnExactPackTid", apart := false }
def FnExactPackTidSaid : Prop := fnExactPackTidRow.holds Try.pinned (OpenSpec.ofChange fnExactPackTidSpec)

/-- ITS FALSE NEIGHBOUR: 'it returns false'. Refute it at one input. -/
def fnExactPackTidWrong : ChangeSpec := { name := "fnExactPackTid", fn := fun _ => fun
  | [d] => { results := [.lit (.bool false)], args := [d] }
  | _ => none }
def FnExactPackTidWrongFalsely : Prop := fnExactPackTidRow.holds Try.pinned (OpenSpec.ofChange fnExactPackTidWrong)

/-- 'laws.FnExactGoodGroup': WHATEVER THE INPUT: true; the input reads as it did. -/
def fnExactGoodGroupSpec : ChangeSpec := { name := "fnExactGoodGroup", fn := fun _ => fun
  | [d1, d2] => { results := [.lit (.bool true)], args := [d1, d2] }
  | _ => none }
def fnExactGoodGroupRow : OpenClaim := { program := "ytjbaakfamepbeaa", sum := "788929ce57f26aad94d9f715b11204b8e2d6b5ee138fc6423af91c2d47a0bd11", func := "loop.example/g00218/laws.FnExactGoodGroup", spec := "fnExactGoodGroup", apart := false }
def FnExactGoodGroupSaid : Prop := fnExactGoodGroupRow.holds Try.pinned (OpenSpec.ofChange fnExactGoodGroupSpec)

/-- ITS FALSE NEIGHBOUR: 'it returns false'. Refute it at one input. -/
def fnExactGoodGroupWrong : ChangeSpec := { name := "fnExactGoodGroup", fn := fun _ => fun
  | [d1, d2] => { results := [.lit (.bool false)], args := [d1, d2] }
  | _ => none }
def FnExactGoodGroupWrongFalsely : Prop := fnExactGoodGroupRow.holds Try.pinned (OpenSpec.ofChange fnExactGoodGroupWrong)

/-- 'laws.FnExactCompareTid': WHATEVER THE INPUT: true; the input reads as it did. -/
def fnExactCompareTidSpec : ChangeSpec := { name := "fnExactCompareTid", fn := fun _ => fun
  | [d1, d2] => { results := [.lit (.bool true)], args := [d1, d2] }
  | _ => none }
def fnExactCompareTidRow : OpenClaim := { program := "ytjbaakfamepbeaa", sum := "788929ce57f26aad94d9f715b11204b8e2d6b5ee138fc6423af91c2d47a0bd11", func := "loop.example/g00218/laws.FnExactCompareTid", spec := "fnExactCompareTid", apart := false }
def FnExactCompareTidSaid : Prop := fnExactCompareTidRow.holds Try.pinned (OpenSpec.ofChange fnExactCompareTidSpec)

/-- ITS FALSE NEIGHBOUR: 'it returns false'. Refute it at one input. -/
def fnExactCompareTidWrong : ChangeSpec := { name := "fnExactCompareTid", fn := fun _ => fun
  | [d1, d2] => { results := [.lit (.bool false)], args := [d1, d2] }
  | _ => none }
def FnExactCompareTidWrongFalsely : Prop := fnExactCompareTidRow.holds Try.pinned (OpenSpec.ofChange fnExactCompareTidWrong)

/-- 'laws.FnExactGridQuorum': WHATEVER THE INPUT: true; the input reads as it did. -/
def fnExactGridQuorumSpec : ChangeSpec := { name := "fnExactGridQuorum", fn := fun _ => fun
  | [d1, d2, d3, d4] => { results := [.lit (.bool true)], args := [d1, d2, d3, d4] }
  | _ => none }
def fnExactGridQuorumRow : OpenClaim := { program := "ytjbaakfamepbeaa", sum := "788929ce57f26aad94d9f715b11204b8e2d6b5ee138fc6423af91c2d47a0bd11", func := "loop.example/g00218/laws.FnExactGridQuorum", spec := "fnExactGridQuorum", apart := false }
def FnExactGridQuorumSaid : Prop := fnExactGridQuorumRow.holds Try.pinned (OpenSpec.ofChange fnExactGridQuorumSpec)

/-- ITS FALSE NEIGHBOUR: 'it returns false'. Refute it at one input. -/
def fnExactGridQuorumWrong : ChangeSpec := { name := "fnExactGridQuorum", fn := fun _ => fun
  | [d1, d2, d3, d4] => { results := [.lit (.bool false)], args := [d1, d2, d3, d4] }
  | _ => none }
def FnExactGridQuorumWrongFalsely : Prop := fnExactGridQuorumRow.holds Try.pinned (OpenSpec.ofChange fnExactGridQuorumWrong)

/-- 'laws.FnExactJoinCuts': WHATEVER THE INPUT: true; the input reads as it did. -/
def fnExactJoinCutsSpec : ChangeSpec := { name := "fnExactJoinCuts", fn := fun _ => fun
  | [d1, d2, d3] => { results := [.lit (.bool true)], args := [d1, d2, d3] }
  | _ => none }
def fnExactJoinCutsRow : OpenClaim := { program := "ytjbaakfamepbeaa", sum := "788929ce57f26aad94d9f715b11204b8e2d6b5ee138fc6423af91c2d47a0bd11", func := "loop.example/g00218/laws.FnExactJoinCuts", spec := "fnExactJoinCuts", unfollowed := true, recurses := true, apart := false }
def FnExactJoinCutsSaid : Prop := fnExactJoinCutsRow.holds Try.pinned (OpenSpec.ofChange fnExactJoinCutsSpec)

/-- ITS FALSE NEIGHBOUR: 'it returns false'. Refute it at one input. -/
def fnExactJoinCutsWrong : ChangeSpec := { name := "fnExactJoinCuts", fn := fun _ => fun
  | [d1, d2, d3] => { results := [.lit (.bool false)], args := [d1, d2, d3] }
  | _ => none }
def FnExactJoinCutsWrongFalsely : Prop := fnExactJoinCutsRow.holds Try.pinned (OpenSpec.ofChange fnExactJoinCutsWrong)

/-- 'laws.FnExactGoodEvents': WHATEVER THE INPUT: true; the input reads as it did. -/
def fnExactGoodEventsSpec : ChangeSpec := { name := "fnExactGoodEvents", fn := fun _ => fun
  | [d] => { results := [.lit (.bool true)], args := [d] }
  | _ => none }
def fnExactGoodEventsRow : OpenClaim := { program := "ytjbaakfamepbeaa", sum := "788929ce57f26aad94d9f715b11204b8e2d6b5ee138fc6423af91c2d47a0bd11", func := "loop.example/g00218/laws.FnExactGoodEvents", spec := "fnExactGoodEvents", apart := false }
def FnExactGoodEventsSaid : Prop := fnExactGoodEventsRow.holds Try.pinned (OpenSpec.ofChange fnExactGoodEventsSpec)

/-- ITS FALSE NEIGHBOUR: 'it returns false'. Refute it at one input. -/
def fnExactGoodEventsWrong : ChangeSpec := { name := "fnExactGoodEvents", fn := fun _ => fun
  | [d] => { results := [.lit (.bool false)], args := [d] }
  | _ => none }
def FnExactGoodEventsWrongFalsely : Prop := fnExactGoodEventsRow.holds Try.pinned (OpenSpec.ofChange fnExactGoodEventsWrong)

/-- 'laws.FnExactNextTid': WHATEVER THE INPUT: true; the input reads as it did. -/
def fnExactNextTidSpec : ChangeSpec := { name := "fnExactNextTid", fn := fun _ => fun
  | [d1, d2] => { results := [.lit (.bool true)], args := [d1, d2] }
  | _ => none }
def fnExactNextTidRow : OpenClaim := { program := "ytjbaakfamepbeaa", sum := "788929ce57f26aad94d9f715b11204b8e2d6b5ee138fc6423af91c2d47a0bd11", func := "loop.example/g00218/laws.FnExactNextTid", spec := "fnExactNextTid", apart := false }
def FnExactNextTidSaid : Prop := fnExactNextTidRow.holds Try.pinned (OpenSpec.ofChange fnExactNextTidSpec)

/-- ITS FALSE NEIGHBOUR: 'it returns false'. Refute it at one input. -/
def fnExactNextTidWrong : ChangeSpec := { name := "fnExactNextTid", fn := fun _ => fun
  | [d1, d2] => { results := [.lit (.bool false)], args := [d1, d2] }
  | _ => none }
def FnExactNextTidWrongFalsely : Prop := fnExactNextTidRow.holds Try.pinned (OpenSpec.ofChange fnExactNextTidWrong)

/-- 'laws.FnExactCompareClock': WHATEVER THE INPUT: true; the input reads as it did. -/
def fnExactCompareClockSpec : ChangeSpec := { name := "fnExactCompareClock", fn := fun _ => fun
  | [d1, d2] => { results := [.lit (.bool true)], args := [d1, d2] }
  | _ => none }
def fnExactCompareClockRow : OpenClaim := { program := "ytjbaakfamepbeaa", sum := "788929ce57f26aad94d9f715b11204b8e2d6b5ee138fc6423af91c2d47a0bd11", func := "loop.example/g00218/laws.FnExactCompareClock", spec := "fnExactCompareClock", unfollowed := true, recurses := true, apart := false }
def FnExactCompareClockSaid : Prop := fnExactCompareClockRow.holds Try.pinned (OpenSpec.ofChange fnExactCompareClockSpec)

/-- ITS FALSE NEIGHBOUR: 'it returns false'. Refute it at one input. -/
def fnExactCompareClockWrong : ChangeSpec := { name := "fnExactCompareClock", fn := fun _ => fun
  | [d1, d2] => { results := [.lit (.bool false)], args := [d1, d2] }
  | _ => none }
def FnExactCompareClockWrongFalsely : Prop := fnExactCompareClockRow.holds Try.pinned (OpenSpec.ofChange fnExactCompareClockWrong)

/-- 'laws.FnExactMergeClock': WHATEVER THE INPUT: true; the input reads as it did. -/
def fnExactMergeClockSpec : ChangeSpec := { name := "fnExactMergeClock", fn := fun _ => fun
  | [d1, d2] => { results := [.lit (.bool true)], args := [d1, d2] }
  | _ => none }
def fnExactMergeClockRow : OpenClaim := { program := "ytjbaakfamepbeaa", sum := "788929ce57f26aad94d9f715b11204b8e2d6b5ee138fc6423af91c2d47a0bd11", func := "loop.example/g00218/laws.FnExactMergeClock", spec := "fnExactMergeClock", unfollowed := true, recurses := true, apart := false }
def FnExactMergeClockSaid : Prop := fnExactMergeClockRow.holds Try.pinned (OpenSpec.ofChange fnExactMergeClockSpec)

/-- ITS FALSE NEIGHBOUR: 'it returns false'. Refute it at one input. -/
def fnExactMergeClockWrong : ChangeSpec := { name := "fnExactMergeClock", fn := fun _ => fun
  | [d1, d2] => { results := [.lit (.bool false)], args := [d1, d2] }
  | _ => none }
def FnExactMergeClockWrongFalsely : Prop := fnExactMergeClockRow.holds Try.pinned (OpenSpec.ofChange fnExactMergeClockWrong)

/- THE SECOND FORM. 'bulk': how many values and letters a reading holds, each counted each time it is reached (what is shared counts as often as it is met; a slice's spare places count too). A statement '..UptoSaid' is the law's where the arguments, and the package variables that the reading takes, are together of bulk at most 1048576: NARROWER than '..Said'. Prove '..Said' where nothing that the law and all that it calls make is longer than what came in: it says more and counts as full. Else prove '..UptoSaid'. A law counts once. -/
mutual
def uptoBulk {H : Type} : DataW H → Nat
  | .lit (.string bytes) => bytes.length + 1
  | .lit _ => 1
  | .nil => 1
  | .ptr d => uptoBulk d + 1
  | .slice elems spare => uptoBulkAll elems + uptoBulkAll spare + 1
  | .agg parts => uptoBulkAll parts + 1
  | .iface _ d => uptoBulk d + 1
  | .map entries => uptoBulkEntries entries + 1
  | .held _ => 1
def uptoBulkAll {H : Type} : List (DataW H) → Nat
  | [] => 0
  | d :: r => uptoBulk d + uptoBulkAll r
def uptoBulkEntries {H : Type} : List (Lit × DataW H) → Nat
  | [] => 0
  | x :: r => uptoBulkEntry x + uptoBulkEntries r
def uptoBulkEntry {H : Type} : Lit × DataW H → Nat
  | (.string bytes, d) => bytes.length + uptoBulk d + 1
  | (_, d) => uptoBulk d + 1
 end
def uptoSmall : (H : Type) → List (DataW H) → Bool := fun _ ds => decide (uptoBulkAll ds ≤ 1048576)
def OpenSpec.upto (s : _root_.Go.ChangeSpec) : _root_.Go.OpenSpec := { _root_.Go.OpenSpec.ofChange s with cond := some uptoSmall }

/-- 'laws.FnExactConstants', WHERE WHAT IT READS IS OF BULK AT MOST 1048576: true; the input reads as it did. -/
def fnExactConstantsUptoRow : OpenClaim := { program := "ytjbaakfamepbeaa", sum := "788929ce57f26aad94d9f715b11204b8e2d6b5ee138fc6423af91c2d47a0bd11", func := "loop.example/g00218/laws.FnExactConstants", spec := "fnExactConstants", apart := false, narrowed := true }
def FnExactConstantsUptoSaid : Prop := fnExactConstantsUptoRow.holds Try.pinned (OpenSpec.upto fnExactConstantsSpec)

/-- 'laws.FnExactGoodTid', WHERE WHAT IT READS IS OF BULK AT MOST 1048576: true; the input reads as it did. -/
def fnExactGoodTidUptoRow : OpenClaim := { program := "ytjbaakfamepbeaa", sum := "788929ce57f26aad94d9f715b11204b8e2d6b5ee138fc6423af91c2d47a0bd11", func := "loop.example/g00218/laws.FnExactGoodTid", spec := "fnExactGoodTid", apart := false, narrowed := true }
def FnExactGoodTidUptoSaid : Prop := fnExactGoodTidUptoRow.holds Try.pinned (OpenSpec.upto fnExactGoodTidSpec)

/-- 'laws.FnExactUnpackTid', WHERE WHAT IT READS IS OF BULK AT MOST 1048576: true; the input reads as it did. -/
def fnExactUnpackTidUptoRow : OpenClaim := { program := "ytjbaakfamepbeaa", sum := "788929ce57f26aad94d9f715b11204b8e2d6b5ee138fc6423af91c2d47a0bd11", func := "loop.example/g00218/laws.FnExactUnpackTid", spec := "fnExactUnpackTid", apart := false, narrowed := true }
def FnExactUnpackTidUptoSaid : Prop := fnExactUnpackTidUptoRow.holds Try.pinned (OpenSpec.upto fnExactUnpackTidSpec)

/-- 'laws.FnExactPackTid', WHERE WHAT IT READS IS OF BULK AT MOST 1048576: true; the input reads as it did. -/
def fnExactPackTidUptoRow : OpenClaim := { program := "ytjbaakfamepbeaa", sum := "788929ce57f26aad94d9f715b11204b8e2d6b5ee138fc6423af91c2d47a0bd11", func := "loop.example/g00218/laws.FnExactPackTid", spec := "fnExactPackTid", apart := false, narrowed := true }
def FnExactPackTidUptoSaid : Prop := fnExactPackTidUptoRow.holds Try.pinned (OpenSpec.upto fnExactPackTidSpec)

/-- 'laws.FnExactGoodGroup', WHERE WHAT IT READS IS OF BULK AT MOST 1048576: true; the input reads as it did. -/
def fnExactGoodGroupUptoRow : OpenClaim := { program := "ytjbaakfamepbeaa", sum := "788929ce57f26aad94d9f715b11204b8e2d6b5ee138fc6423af91c2d47a0bd11", func := "loop.example/g00218/laws.FnExactGoodGroup", spec := "fnExactGoodGroup", apart := false, narrowed := true }
def FnExactGoodGroupUptoSaid : Prop := fnExactGoodGroupUptoRow.holds Try.pinned (OpenSpec.upto fnExactGoodGroupSpec)

/-- 'laws.FnExactCompareTid', WHERE WHAT IT READS IS OF BULK AT MOST 1048576: true; the input reads as it did. -/
def fnExactCompareTidUptoRow : OpenClaim := { program := "ytjbaakfamepbeaa", sum := "788929ce57f26aad94d9f715b11204b8e2d6b5ee138fc6423af91c2d47a0bd11", func := "loop.example/g00218/laws.FnExactCompareTid", spec := "fnExactCompareTid", apart := false, narrowed := true }
def FnExactCompareTidUptoSaid : Prop := fnExactCompareTidUptoRow.holds Try.pinned (OpenSpec.upto fnExactCompareTidSpec)

/-- 'laws.FnExactGridQuorum', WHERE WHAT IT READS IS OF BULK AT MOST 1048576: true; the input reads as it did. -/
def fnExactGridQuorumUptoRow : OpenClaim := { program := "ytjbaakfamepbeaa", sum := "788929ce57f26aad94d9f715b11204b8e2d6b5ee138fc6423af91c2d47a0bd11", func := "loop.example/g00218/laws.FnExactGridQuorum", spec := "fnExactGridQuorum", apart := false, narrowed := true }
def FnExactGridQuorumUptoSaid : Prop := fnExactGridQuorumUptoRow.holds Try.pinned (OpenSpec.upto fnExactGridQuorumSpec)

/-- 'laws.FnExactJoinCuts', WHERE WHAT IT READS IS OF BULK AT MOST 1048576: true; the input reads as it did. -/
def fnExactJoinCutsUptoRow : OpenClaim := { program := "ytjbaakfamepbeaa", sum := "788929ce57f26aad94d9f715b11204b8e2d6b5ee138fc6423af91c2d47a0bd11", func := "loop.example/g00218/laws.FnExactJoinCuts", spec := "fnExactJoinCuts", unfollowed := true, recurses := true, apart := false, narrowed := true }
def FnExactJoinCutsUptoSaid : Prop := fnExactJoinCutsUptoRow.holds Try.pinned (OpenSpec.upto fnExactJoinCutsSpec)

/-- 'laws.FnExactGoodEvents', WHERE WHAT IT READS IS OF BULK AT MOST 1048576: true; the input reads as it did. -/
def fnExactGoodEventsUptoRow : OpenClaim := { program := "ytjbaakfamepbeaa", sum := "788929ce57f26aad94d9f715b11204b8e2d6b5ee138fc6423af91c2d47a0bd11", func := "loop.example/g00218/laws.FnExactGoodEvents", spec := "fnExactGoodEvents", apart := false, narrowed := true }
def FnExactGoodEventsUptoSaid : Prop := fnExactGoodEventsUptoRow.holds Try.pinned (OpenSpec.upto fnExactGoodEventsSpec)

/-- 'laws.FnExactNextTid', WHERE WHAT IT READS IS OF BULK AT MOST 1048576: true; the input reads as it did. -/
def fnExactNextTidUptoRow : OpenClaim := { program := "ytjbaakfamepbeaa", sum := "788929ce57f26aad94d9f715b11204b8e2d6b5ee138fc6423af91c2d47a0bd11", func := "loop.example/g00218/laws.FnExactNextTid", spec := "fnExactNextTid", apart := false, narrowed := true }
def FnExactNextTidUptoSaid : Prop := fnExactNextTidUptoRow.holds Try.pinned (OpenSpec.upto fnExactNextTidSpec)

/-- 'laws.FnExactCompareClock', WHERE WHAT IT READS IS OF BULK AT MOST 1048576: true; the input reads as it did. -/
def fnExactCompareClockUptoRow : OpenClaim := { program := "ytjbaakfamepbeaa", sum := "788929ce57f26aad94d9f715b11204b8e2d6b5ee138fc6423af91c2d47a0bd11", func := "loop.example/g00218/laws.FnExactCompareClock", spec := "fnExactCompareClock", unfollowed := true, recurses := true, apart := false, narrowed := true }
def FnExactCompareClockUptoSaid : Prop := fnExactCompareClockUptoRow.holds Try.pinned (OpenSpec.upto fnExactCompareClockSpec)

/-- 'laws.FnExactMergeClock', WHERE WHAT IT READS IS OF BULK AT MOST 1048576: true; the input reads as it did. -/
def fnExactMergeClockUptoRow : OpenClaim := { program := "ytjbaakfamepbeaa", sum := "788929ce57f26aad94d9f715b11204b8e2d6b5ee138fc6423af91c2d47a0bd11", func := "loop.example/g00218/laws.FnExactMergeClock", spec := "fnExactMergeClock", unfollowed := true, recurses := true, apart := false, narrowed := true }
def FnExactMergeClockUptoSaid : Prop := fnExactMergeClockUptoRow.holds Try.pinned (OpenSpec.upto fnExactMergeClockSpec)

end Rows
end Go.Proofs.Ytjbaakfamepbeaa
