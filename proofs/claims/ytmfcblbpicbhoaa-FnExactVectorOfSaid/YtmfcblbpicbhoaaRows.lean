/-
  No cell of these rows narrows 'for every input' (looked for: loops, veiled, ifaces, maps, wideKeys, modest, calm, conditions, laid).
  DERIVED. THE GIVEN ROWS OF THIS SEAT. 4 by the template 'for every input the law returns true; each argument reads behind the call as it read before'; 0 by the template 'total and deterministic' (their statements: YtmfcblbpicbhoaaTotals.lean).
  GIVEN WITH THE SEED: the statements are not yours to turn. If you find one false, say at which input.
  Laid BY PROGRAM, IN A SANDBOX (cutbox-rows.mjs): the forced cells as the released guide's own fill.sh prints them over the translation 631d111fcade83b9… (all of the seat's roots in one cut). By AI agents, Wed Nov 11 2026. No macro, syntax, notation, axiom, sorry.
-/
import Derived.Test.YtmfcblbpicbhoaaChecked
import GoSem.Claim
import GoSem.ClaimJoined
import GoSem.ClaimMapViews
import Derived.JoinedTies
import Derived.KernelRfl
namespace Go.Proofs.Ytmfcblbpicbhoaa
/- THE CELL 'sum', in the pinned program and in every row, IS THE sha256 OF THE DUMP (.gsa) THAT YtmfcblbpicbhoaaProg.lean LOADS. Nothing in Lean hashes anything: it is a label: what it is worth is what the hold of that sum in a sandbox is worth. -/
noncomputable def Try.pinned : Pinned := { name := "ytmfcblbpicbhoaa", sum := "631d111fcade83b992138eea6c28e01f715ec82a783631b1b03160080d2083db", checked := Try.checked }
namespace Rows
def none {H : Type} : Left H := { results := [], args := [] }

/-- 'laws.FnExactAheadOf': WHATEVER THE INPUT: true; the input reads as it did. -/
def fnExactAheadOfSpec : ChangeSpec := { name := "fnExactAheadOf", fn := fun _ => fun
  | [d1, d2, d3] => { results := [.lit (.bool true)], args := [d1, d2, d3] }
  | _ => none }
def fnExactAheadOfRow : OpenClaim := { program := "ytmfcblbpicbhoaa", sum := "631d111fcade83b992138eea6c28e01f715ec82a783631b1b03160080d2083db", func := "loop.example/g00218/laws.FnExactAheadOf", spec := "fnExactAheadOf", apart := false }
def FnExactAheadOfSaid : Prop := fnExactAheadOfRow.holds Try.pinned (OpenSpec.ofChange fnExactAheadOfSpec)

/-- ITS FALSE NEIGHBOUR: 'it returns false'. Refute it at one input. -/
def fnExactAheadOfWrong : ChangeSpec := { name := "fnExactAheadOf", fn := fun _ => fun
  | [d1, d2, d3] => { results := [.lit (.bool false)], args := [d1, d2, d3] }
  | _ => none }
def FnExactAheadOfWrongFalsely : Prop := fnExactAheadOfRow.holds Try.pinned (OpenSpec.ofChange fnExactAheadOfWrong)

/-- 'laws.FnExactLamportOf': WHATEVER THE INPUT: true; the input reads as it did. -/
def fnExactLamportOfSpec : ChangeSpec := { name := "fnExactLamportOf", fn := fun _ => fun
  | [d] => { results := [.lit (.bool true)], args := [d] }
  | _ => none }
def fnExactLamportOfRow : OpenClaim := { program := "ytmfcblbpicbhoaa", sum := "631d111fcade83b992138eea6c28e01f715ec82a783631b1b03160080d2083db", func := "loop.example/g00218/laws.FnExactLamportOf", spec := "fnExactLamportOf", apart := false }
def FnExactLamportOfSaid : Prop := fnExactLamportOfRow.holds Try.pinned (OpenSpec.ofChange fnExactLamportOfSpec)

/-- ITS FALSE NEIGHBOUR: 'it returns false'. Refute it at one input. -/
def fnExactLamportOfWrong : ChangeSpec := { name := "fnExactLamportOf", fn := fun _ => fun
  | [d] => { results := [.lit (.bool false)], args := [d] }
  | _ => none }
def FnExactLamportOfWrongFalsely : Prop := fnExactLamportOfRow.holds Try.pinned (OpenSpec.ofChange fnExactLamportOfWrong)

/-- 'laws.FnExactGoodCut': WHATEVER THE INPUT: true; the input reads as it did. -/
def fnExactGoodCutSpec : ChangeSpec := { name := "fnExactGoodCut", fn := fun _ => fun
  | [d1, d2] => { results := [.lit (.bool true)], args := [d1, d2] }
  | _ => none }
def fnExactGoodCutRow : OpenClaim := { program := "ytmfcblbpicbhoaa", sum := "631d111fcade83b992138eea6c28e01f715ec82a783631b1b03160080d2083db", func := "loop.example/g00218/laws.FnExactGoodCut", spec := "fnExactGoodCut", apart := false }
def FnExactGoodCutSaid : Prop := fnExactGoodCutRow.holds Try.pinned (OpenSpec.ofChange fnExactGoodCutSpec)

/-- ITS FALSE NEIGHBOUR: 'it returns false'. Refute it at one input. -/
def fnExactGoodCutWrong : ChangeSpec := { name := "fnExactGoodCut", fn := fun _ => fun
  | [d1, d2] => { results := [.lit (.bool false)], args := [d1, d2] }
  | _ => none }
def FnExactGoodCutWrongFalsely : Prop := fnExactGoodCutRow.holds Try.pinned (OpenSpec.ofChange fnExactGoodCutWrong)

/-- 'laws.FnExactVectorOf': WHATEVER THE INPUT: true; the input reads as it did. -/
def fnExactVectorOfSpec : ChangeSpec := { name := "fnExactVectorOf", fn := fun _ => fun
  | [d] => { results := [.lit (.bool true)], args := [d] }
  | _ => none }
def fnExactVectorOfRow : OpenClaim := { program := "ytmfcblbpicbhoaa", sum := "631d111fcade83b992138eea6c28e01f715ec82a783631b1b03160080d2083db", func := "loop.example/g00218/laws.FnExactVectorOf", spec := "fnExactVectorOf", apart := false }
def FnExactVectorOfSaid : Prop := fnExactVectorOfRow.holds Try.pinned (OpenSpec.ofChange fnExactVectorOfSpec)

/-- ITS FALSE NEIGHBOUR: 'it returns false'. Refute it at one input. -/
def fnExactVectorOfWrong : ChangeSpec := { name := "fnExactVectorOf", fn := fun _ => fun
  | [d] => { results := [.lit (.bool false)], args := [d] }
  | _ => none }
def FnExactVectorOfWrongFalsely : Prop := fnExactVectorOfRow.holds Try.pinned (OpenSpec.ofChange fnExactVectorOfWrong)

/- THE SECOND FORM. 'bulk': how many values and letters a reading holds, each counted each time it is reached (what is shared counts as often as it is met; a slice's spare places count too). A statement '..UptoSaid' is the law's where the arguments, and the package variables that the reading takes, are together of bulk at most 1048576: NARROWER than '..Said'. Prove '..Said' where nothing that the law and all that it calls make is longer than what came in: it says more and counts as full. Else prove '..UptoSaid'. A law counts once. -/
mutual
def uptoBulk {H : Type} : DataW H → Nat
  | .lit (.string bytes) => bytes.length + 1
  | .lit _ => 1
  | .nil => 1
  | .ptr d => uptoBulk d + 1
  | .slice elems spare => uptoBulkAll elems + uptoBulkAll spare + 1
  | .agg parts => uptoBulkAll parts + 1
  | .iface _ d => uptoBulk d + 1
  | .map entries => uptoBulkEntries entries + 1
  | .held _ => 1
def uptoBulkAll {H : Type} : List (DataW H) → Nat
  | [] => 0
  | d :: r => uptoBulk d + uptoBulkAll r
def uptoBulkEntries {H : Type} : List (Lit × DataW H) → Nat
  | [] => 0
  | x :: r => uptoBulkEntry x + uptoBulkEntries r
def uptoBulkEntry {H : Type} : Lit × DataW H → Nat
  | (.string bytes, d) => bytes.length + uptoBulk d + 1
  | (_, d) => uptoBulk d + 1
 end
def uptoSmall : (H : Type) → List (DataW H) → Bool := fun _ ds => decide (uptoBulkAll ds ≤ 1048576)
def OpenSpec.upto (s : _root_.Go.ChangeSpec) : _root_.Go.OpenSpec := { _root_.Go.OpenSpec.ofChange s with cond := some uptoSmall }

/-- 'laws.FnExactAheadOf', WHERE WHAT IT READS IS OF BULK AT MOST 1048576: true; the input reads as it did. -/
def fnExactAheadOfUptoRow : OpenClaim := { program := "ytmfcblbpicbhoaa", sum := "631d111fcade83b992138eea6c28e01f715ec82a783631b1b03160080d2083db", func := "loop.example/g00218/laws.FnExactAheadOf", spec := "fnExactAheadOf", apart := false, narrowed := true }
def FnExactAheadOfUptoSaid : Prop := fnExactAheadOfUptoRow.holds Try.pinned (OpenSpec.upto fnExactAheadOfSpec)

/-- 'laws.FnExactLamportOf', WHERE WHAT IT READS IS OF BULK AT MOST 1048576: true; the input reads as it did. -/
def fnExactLamportOfUptoRow : OpenClaim := { program := "ytmfcblbpicbhoaa", sum := "631d111fcade83b992138eea6c28e01f715ec82a783631b1b03160080d2083db", func := "loop.example/g00218/laws.FnExactLamportOf", spec := "fnExactLamportOf", apart := false, narrowed := true }
def FnExactLamportOfUptoSaid : Prop := fnExactLamportOfUptoRow.holds Try.pinned (OpenSpec.upto fnExactLamportOfSpec)

/-- 'laws.FnExactGoodCut', WHERE WHAT IT READS IS OF BULK AT MOST 1048576: true; the input reads as it did. -/
def fnExactGoodCutUptoRow : OpenClaim := { program := "ytmfcblbpicbhoaa", sum := "631d111fcade83b992138eea6c28e01f715ec82a783631b1b03160080d2083db", func := "loop.example/g00218/laws.FnExactGoodCut", spec := "fnExactGoodCut", apart := false, narrowed := true }
def FnExactGoodCutUptoSaid : Prop := fnExactGoodCutUptoRow.holds Try.pinned (OpenSpec.upto fnExactGoodCutSpec)

/-- 'laws.FnExactVectorOf', WHERE WHAT IT READS IS OF BULK AT MOST 1048576: true; the input reads as it did. -/
def fnExactVectorOfUptoRow : OpenClaim := { program := "ytmfcblbpicbhoaa", sum := "631d111fcade83b992138eea6c28e01f715ec82a783631b1b03160080d2083db", func := "loop.example/g00218/laws.FnExactVectorOf", spec := "fnExactVectorOf", apart := false, narrowed := true }
def FnExactVectorOfUptoSaid : Prop := fnExactVectorOfUptoRow.holds Try.pinned (OpenSpec.upto fnExactVectorOfSpec)

end Rows
end Go.Proofs.Ytmfcblbpicbhoaa
