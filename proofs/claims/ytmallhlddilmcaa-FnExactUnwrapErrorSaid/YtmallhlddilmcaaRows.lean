/-
  No cell of these rows narrows 'for every input' (looked for: loops, veiled, ifaces, maps, wideKeys, modest, calm, conditions, laid).
  DERIVED. THE GIVEN ROWS OF THIS SEAT. 12 by the template 'for every input the law returns true; each argument reads behind the call as it read before'; 0 by the template 'total and deterministic' (their statements: YtmallhlddilmcaaTotals.lean).
  GIVEN WITH THE SEED: the statements are not yours to turn. If you find one false, say at which input.
  Laid BY PROGRAM, IN A SANDBOX (cutbox-rows.mjs): the forced cells as the released guide's own fill.sh prints them over the translation 5bc4839de4785ff3… (all of the seat's roots in one cut). By AI agents, Wed Nov 11 2026. No macro, syntax, notation, axiom, sorry.
-/
import Derived.Test.YtmallhlddilmcaaChecked
import GoSem.Claim
import GoSem.ClaimJoined
import GoSem.ClaimMapViews
import Derived.JoinedTies
import Derived.KernelRfl
namespace Go.Proofs.Ytmallhlddilmcaa
/- THE CELL 'sum', in the pinned program and in every row, IS THE sha256 OF THE DUMP (.gsa) THAT YtmallhlddilmcaaProg.lean LOADS. Nothing in Lean hashes anything: it is a label: what it is worth is what the hold of that sum in a sandbox is worth. -/
noncomputable def Try.pinned : Pinned := { name := "ytmallhlddilmcaa", sum := "5bc4839de4785ff3de83bfccac96ccdbe3e9a075180049c64598dafe7bf90271", checked := Try.checked }
namespace Rows
def none {H : Type} : Left H := { results := [], args := [] }

/-- 'laws.FnExactConstants': WHATEVER THE INPUT: true; the input reads as it did. -/
def fnExactConstantsSpec : ChangeSpec := { name := "fnExactConstants", fn := fun _ => fun
  | [] => { results := [.lit (.bool true)], args := [] }
  | _ => none }
def fnExactConstantsRow : OpenClaim := { program := "ytmallhlddilmcaa", sum := "5bc4839de4785ff3de83bfccac96ccdbe3e9a075180049c64598dafe7bf90271", func := "loop.example/g01183/laws.FnExactConstants", spec := "fnExactConstants", apart := false }
def FnExactConstantsSaid : Prop := fnExactConstantsRow.holds Try.pinned (OpenSpec.ofChange fnExactConstantsSpec)

/-- ITS FALSE NEIGHBOUR: 'it returns false'. Refute it at one input. -/
def fnExactConstantsWrong : ChangeSpec := { name := "fnExactConstants", fn := fun _ => fun
  | [] => { results := [.lit (.bool false)], args := [] }
  | _ => none }
def FnExactConstantsWrongFalsely : Prop := fnExactConstantsRow.holds Try.pinned (OpenSpec.ofChange fnExactConstantsWrong)

/-- 'laws.FnExactLessString': WHATEVER THE INPUT: true; the input reads as it did. -/
def fnExactLessStringSpec : ChangeSpec := { name := "fnExactLessString", fn := fun _ => fun
  | [d1, d2] => { results := [.lit (.bool true)], args := [d1, d2] }
  | _ => none }
def fnExactLessStringRow : OpenClaim := { program := "ytmallhlddilmcaa", sum := "5bc4839de4785ff3de83bfccac96ccdbe3e9a075180049c64598dafe7bf90271", func := "loop.example/g01183/laws.FnExactLessString", spec := "fnExactLessString", apart := false }
def FnExactLessStringSaid : Prop := fnExactLessStringRow.holds Try.pinned (OpenSpec.ofChange fnExactLessStringSpec)

/-- ITS FALSE NEIGHBOUR: 'it returns false'. Refute it at one input. -/
def fnExactLessStringWrong : ChangeSpec := { name := "fnExactLessString", fn := fun _ => fun
  | [d1, d2] => { results := [.lit (.bool false)], args := [d1, d2] }
  | _ => none }
def FnExactLessStringWrongFalsely : Prop := fnExactLessStringRow.holds Try.pinned (OpenSpec.ofChange fnExactLessStringWrong)

/-- 'laws.FnExactChecksum': WHATEVER THE INPUT: true; the input reads as it did. -/
def fnExactChecksumSpec : ChangeSpec := { name := "fnExactChecksum", fn := fun _ => fun
  | [d] => { results := [.lit (.bool true)], args := [d] }
  | _ => none }
def fnExactChecksumRow : OpenClaim := { program := "ytmallhlddilmcaa", sum := "5bc4839de4785ff3de83bfccac96ccdbe3e9a075180049c64598dafe7bf90271", func := "loop.example/g01183/laws.FnExactChecksum", spec := "fnExactChecksum", apart := false }
def FnExactChecksumSaid : Prop := fnExactChecksumRow.holds Try.pinned (OpenSpec.ofChange fnExactChecksumSpec)

/-- ITS FALSE NEIGHBOUR: 'it returns false'. Refute it at one input. -/
def fnExactChecksumWrong : ChangeSpec := { name := "fnExactChecksum", fn := fun _ => fun
  | [d] => { results := [.lit (.bool false)], args := [d] }
  | _ => none }
def FnExactChecksumWrongFalsely : Prop := fnExactChecksumRow.holds Try.pinned (OpenSpec.ofChange fnExactChecksumWrong)

/-- 'laws.FnExactStackProgram': WHATEVER THE INPUT: true; the input reads as it did. -/
def fnExactStackProgramSpec : ChangeSpec := { name := "fnExactStackProgram", fn := fun _ => fun
  | [] => { results := [.lit (.bool true)], args := [] }
  | _ => none }
def fnExactStackProgramRow : OpenClaim := { program := "ytmallhlddilmcaa", sum := "5bc4839de4785ff3de83bfccac96ccdbe3e9a075180049c64598dafe7bf90271", func := "loop.example/g01183/laws.FnExactStackProgram", spec := "fnExactStackProgram", apart := false }
def FnExactStackProgramSaid : Prop := fnExactStackProgramRow.holds Try.pinned (OpenSpec.ofChange fnExactStackProgramSpec)

/-- ITS FALSE NEIGHBOUR: 'it returns false'. Refute it at one input. -/
def fnExactStackProgramWrong : ChangeSpec := { name := "fnExactStackProgram", fn := fun _ => fun
  | [] => { results := [.lit (.bool false)], args := [] }
  | _ => none }
def FnExactStackProgramWrongFalsely : Prop := fnExactStackProgramRow.holds Try.pinned (OpenSpec.ofChange fnExactStackProgramWrong)

/-- 'laws.FnExactAreErrors': WHATEVER THE INPUT: true; the input reads as it did. -/
def fnExactAreErrorsSpec : ChangeSpec := { name := "fnExactAreErrors", fn := fun _ => fun
  | [d] => { results := [.lit (.bool true)], args := [d] }
  | _ => none }
def fnExactAreErrorsRow : OpenClaim := { program := "ytmallhlddilmcaa", sum := "5bc4839de4785ff3de83bfccac96ccdbe3e9a075180049c64598dafe7bf90271", func := "loop.example/g01183/laws.FnExactAreErrors", spec := "fnExactAreErrors", unfollowed := true, recurses := true, apart := false }
def FnExactAreErrorsSaid : Prop := fnExactAreErrorsRow.holds Try.pinned (OpenSpec.ofChange fnExactAreErrorsSpec)

/-- ITS FALSE NEIGHBOUR: 'it returns false'. Refute it at one input. -/
def fnExactAreErrorsWrong : ChangeSpec := { name := "fnExactAreErrors", fn := fun _ => fun
  | [d] => { results := [.lit (.bool false)], args := [d] }
  | _ => none }
def FnExactAreErrorsWrongFalsely : Prop := fnExactAreErrorsRow.holds Try.pinned (OpenSpec.ofChange fnExactAreErrorsWrong)

/-- 'laws.FnExactIsProgram': WHATEVER THE INPUT: true; the input reads as it did. -/
def fnExactIsProgramSpec : ChangeSpec := { name := "fnExactIsProgram", fn := fun _ => fun
  | [d] => { results := [.lit (.bool true)], args := [d] }
  | _ => none }
def fnExactIsProgramRow : OpenClaim := { program := "ytmallhlddilmcaa", sum := "5bc4839de4785ff3de83bfccac96ccdbe3e9a075180049c64598dafe7bf90271", func := "loop.example/g01183/laws.FnExactIsProgram", spec := "fnExactIsProgram", unfollowed := true, recurses := true, apart := false }
def FnExactIsProgramSaid : Prop := fnExactIsProgramRow.holds Try.pinned (OpenSpec.ofChange fnExactIsProgramSpec)

/-- ITS FALSE NEIGHBOUR: 'it returns false'. Refute it at one input. -/
def fnExactIsProgramWrong : ChangeSpec := { name := "fnExactIsProgram", fn := fun _ => fun
  | [d] => { results := [.lit (.bool false)], args := [d] }
  | _ => none }
def FnExactIsProgramWrongFalsely : Prop := fnExactIsProgramRow.holds Try.pinned (OpenSpec.ofChange fnExactIsProgramWrong)

/-- 'laws.FnExactIsStep': WHATEVER THE INPUT: true; the input reads as it did. -/
def fnExactIsStepSpec : ChangeSpec := { name := "fnExactIsStep", fn := fun _ => fun
  | [d1, d2] => { results := [.lit (.bool true)], args := [d1, d2] }
  | _ => none }
def fnExactIsStepRow : OpenClaim := { program := "ytmallhlddilmcaa", sum := "5bc4839de4785ff3de83bfccac96ccdbe3e9a075180049c64598dafe7bf90271", func := "loop.example/g01183/laws.FnExactIsStep", spec := "fnExactIsStep", unfollowed := true, recurses := true, apart := false }
def FnExactIsStepSaid : Prop := fnExactIsStepRow.holds Try.pinned (OpenSpec.ofChange fnExactIsStepSpec)

/-- ITS FALSE NEIGHBOUR: 'it returns false'. Refute it at one input. -/
def fnExactIsStepWrong : ChangeSpec := { name := "fnExactIsStep", fn := fun _ => fun
  | [d1, d2] => { results := [.lit (.bool false)], args := [d1, d2] }
  | _ => none }
def FnExactIsStepWrongFalsely : Prop := fnExactIsStepRow.holds Try.pinned (OpenSpec.ofChange fnExactIsStepWrong)

/-- 'laws.FnExactCountWays': WHATEVER THE INPUT: true; the input reads as it did. -/
def fnExactCountWaysSpec : ChangeSpec := { name := "fnExactCountWays", fn := fun _ => fun
  | [d1, d2, d3] => { results := [.lit (.bool true)], args := [d1, d2, d3] }
  | _ => none }
def fnExactCountWaysRow : OpenClaim := { program := "ytmallhlddilmcaa", sum := "5bc4839de4785ff3de83bfccac96ccdbe3e9a075180049c64598dafe7bf90271", func := "loop.example/g01183/laws.FnExactCountWays", spec := "fnExactCountWays", unfollowed := true, recurses := true, apart := false }
def FnExactCountWaysSaid : Prop := fnExactCountWaysRow.holds Try.pinned (OpenSpec.ofChange fnExactCountWaysSpec)

/-- ITS FALSE NEIGHBOUR: 'it returns false'. Refute it at one input. -/
def fnExactCountWaysWrong : ChangeSpec := { name := "fnExactCountWays", fn := fun _ => fun
  | [d1, d2, d3] => { results := [.lit (.bool false)], args := [d1, d2, d3] }
  | _ => none }
def FnExactCountWaysWrongFalsely : Prop := fnExactCountWaysRow.holds Try.pinned (OpenSpec.ofChange fnExactCountWaysWrong)

/-- 'laws.FnExactDepthOf': WHATEVER THE INPUT: true; the input reads as it did. -/
def fnExactDepthOfSpec : ChangeSpec := { name := "fnExactDepthOf", fn := fun _ => fun
  | [d1, d2] => { results := [.lit (.bool true)], args := [d1, d2] }
  | _ => none }
def fnExactDepthOfRow : OpenClaim := { program := "ytmallhlddilmcaa", sum := "5bc4839de4785ff3de83bfccac96ccdbe3e9a075180049c64598dafe7bf90271", func := "loop.example/g01183/laws.FnExactDepthOf", spec := "fnExactDepthOf", unfollowed := true, recurses := true, apart := false }
def FnExactDepthOfSaid : Prop := fnExactDepthOfRow.holds Try.pinned (OpenSpec.ofChange fnExactDepthOfSpec)

/-- ITS FALSE NEIGHBOUR: 'it returns false'. Refute it at one input. -/
def fnExactDepthOfWrong : ChangeSpec := { name := "fnExactDepthOf", fn := fun _ => fun
  | [d1, d2] => { results := [.lit (.bool false)], args := [d1, d2] }
  | _ => none }
def FnExactDepthOfWrongFalsely : Prop := fnExactDepthOfRow.holds Try.pinned (OpenSpec.ofChange fnExactDepthOfWrong)

/-- 'laws.FnExactUnwrapError': WHATEVER THE INPUT: true; the input reads as it did. -/
def fnExactUnwrapErrorSpec : ChangeSpec := { name := "fnExactUnwrapError", fn := fun _ => fun
  | [d1, d2] => { results := [.lit (.bool true)], args := [d1, d2] }
  | _ => none }
def fnExactUnwrapErrorRow : OpenClaim := { program := "ytmallhlddilmcaa", sum := "5bc4839de4785ff3de83bfccac96ccdbe3e9a075180049c64598dafe7bf90271", func := "loop.example/g01183/laws.FnExactUnwrapError", spec := "fnExactUnwrapError", unfollowed := true, recurses := true, apart := false }
def FnExactUnwrapErrorSaid : Prop := fnExactUnwrapErrorRow.holds Try.pinned (OpenSpec.ofChange fnExactUnwrapErrorSpec)

/-- ITS FALSE NEIGHBOUR: 'it returns false'. Refute it at one input. -/
def fnExactUnwrapErrorWrong : ChangeSpec := { name := "fnExactUnwrapError", fn := fun _ => fun
  | [d1, d2] => { results := [.lit (.bool false)], args := [d1, d2] }
  | _ => none }
def FnExactUnwrapErrorWrongFalsely : Prop := fnExactUnwrapErrorRow.holds Try.pinned (OpenSpec.ofChange fnExactUnwrapErrorWrong)

/-- 'laws.FnExactIsError': WHATEVER THE INPUT: true; the input reads as it did. -/
def fnExactIsErrorSpec : ChangeSpec := { name := "fnExactIsError", fn := fun _ => fun
  | [d1, d2, d3] => { results := [.lit (.bool true)], args := [d1, d2, d3] }
  | _ => none }
def fnExactIsErrorRow : OpenClaim := { program := "ytmallhlddilmcaa", sum := "5bc4839de4785ff3de83bfccac96ccdbe3e9a075180049c64598dafe7bf90271", func := "loop.example/g01183/laws.FnExactIsError", spec := "fnExactIsError", unfollowed := true, recurses := true, apart := false }
def FnExactIsErrorSaid : Prop := fnExactIsErrorRow.holds Try.pinned (OpenSpec.ofChange fnExactIsErrorSpec)

/-- ITS FALSE NEIGHBOUR: 'it returns false'. Refute it at one input. -/
def fnExactIsErrorWrong : ChangeSpec := { name := "fnExactIsError", fn := fun _ => fun
  | [d1, d2, d3] => { results := [.lit (.bool false)], args := [d1, d2, d3] }
  | _ => none }
def FnExactIsErrorWrongFalsely : Prop := fnExactIsErrorRow.holds Try.pinned (OpenSpec.ofChange fnExactIsErrorWrong)

/-- 'laws.FnExactAreAlike': WHATEVER THE INPUT: true; the input reads as it did. -/
def fnExactAreAlikeSpec : ChangeSpec := { name := "fnExactAreAlike", fn := fun _ => fun
  | [d1, d2, d3] => { results := [.lit (.bool true)], args := [d1, d2, d3] }
  | _ => none }
def fnExactAreAlikeRow : OpenClaim := { program := "ytmallhlddilmcaa", sum := "5bc4839de4785ff3de83bfccac96ccdbe3e9a075180049c64598dafe7bf90271", func := "loop.example/g01183/laws.FnExactAreAlike", spec := "fnExactAreAlike", unfollowed := true, recurses := true, apart := false }
def FnExactAreAlikeSaid : Prop := fnExactAreAlikeRow.holds Try.pinned (OpenSpec.ofChange fnExactAreAlikeSpec)

/-- ITS FALSE NEIGHBOUR: 'it returns false'. Refute it at one input. -/
def fnExactAreAlikeWrong : ChangeSpec := { name := "fnExactAreAlike", fn := fun _ => fun
  | [d1, d2, d3] => { results := [.lit (.bool false)], args := [d1, d2, d3] }
  | _ => none }
def FnExactAreAlikeWrongFalsely : Prop := fnExactAreAlikeRow.holds Try.pinned (OpenSpec.ofChange fnExactAreAlikeWrong)

/- THE SECOND FORM. 'bulk': how many values and letters a reading holds, each counted each time it is reached (what is shared counts as often as it is met; a slice's spare places count too). A statement '..UptoSaid' is the law's where the arguments, and the package variables that the reading takes, are together of bulk at most 1048576: NARROWER than '..Said'. Prove '..Said' where nothing that the law and all that it calls make is longer than what came in: it says more and counts as full. Else prove '..UptoSaid'. A law counts once. -/
mutual
def uptoBulk {H : Type} : DataW H → Nat
  | .lit (.string bytes) => bytes.length + 1
  | .lit _ => 1
  | .nil => 1
  | .ptr d => uptoBulk d + 1
  | .slice elems spare => uptoBulkAll elems + uptoBulkAll spare + 1
  | .agg parts => uptoBulkAll parts + 1
  | .iface _ d => uptoBulk d + 1
  | .map entries => uptoBulkEntries entries + 1
  | .held _ => 1
def uptoBulkAll {H : Type} : List (DataW H) → Nat
  | [] => 0
  | d :: r => uptoBulk d + uptoBulkAll r
def uptoBulkEntries {H : Type} : List (Lit × DataW H) → Nat
  | [] => 0
  | x :: r => uptoBulkEntry x + uptoBulkEntries r
def uptoBulkEntry {H : Type} : Lit × DataW H → Nat
  | (.string bytes, d) => bytes.length + uptoBulk d + 1
  | (_, d) => uptoBulk d + 1
 end
def uptoSmall : (H : Type) → List (DataW H) → Bool := fun _ ds => decide (uptoBulkAll ds ≤ 1048576)
def OpenSpec.upto (s : _root_.Go.ChangeSpec) : _root_.Go.OpenSpec := { _root_.Go.OpenSpec.ofChange s with cond := some uptoSmall }

/-- 'laws.FnExactConstants', WHERE WHAT IT READS IS OF BULK AT MOST 1048576: true; the input reads as it did. -/
def fnExactConstantsUptoRow : OpenClaim := { program := "ytmallhlddilmcaa", sum := "5bc4839de4785ff3de83bfccac96ccdbe3e9a075180049c64598dafe7bf90271", func := "loop.example/g01183/laws.FnExactConstants", spec := "fnExactConstants", apart := false, narrowed := true }
def FnExactConstantsUptoSaid : Prop := fnExactConstantsUptoRow.holds Try.pinned (OpenSpec.upto fnExactConstantsSpec)

/-- 'laws.FnExactLessString', WHERE WHAT IT READS IS OF BULK AT MOST 1048576: true; the input reads as it did. -/
def fnExactLessStringUptoRow : OpenClaim := { program := "ytmallhlddilmcaa", sum := "5bc4839de4785ff3de83bfccac96ccdbe3e9a075180049c64598dafe7bf90271", func := "loop.example/g01183/laws.FnExactLessString", spec := "fnExactLessString", apart := false, narrowed := true }
def FnExactLessStringUptoSaid : Prop := fnExactLessStringUptoRow.holds Try.pinned (OpenSpec.upto fnExactLessStringSpec)

/-- 'laws.FnExactChecksum', WHERE WHAT IT READS IS OF BULK AT MOST 1048576: true; the input reads as it did. -/
def fnExactChecksumUptoRow : OpenClaim := { program := "ytmallhlddilmcaa", sum := "5bc4839de4785ff3de83bfccac96ccdbe3e9a075180049c64598dafe7bf90271", func := "loop.example/g01183/laws.FnExactChecksum", spec := "fnExactChecksum", apart := false, narrowed := true }
def FnExactChecksumUptoSaid : Prop := fnExactChecksumUptoRow.holds Try.pinned (OpenSpec.upto fnExactChecksumSpec)

/-- 'laws.FnExactStackProgram', WHERE WHAT IT READS IS OF BULK AT MOST 1048576: true; the input reads as it did. -/
def fnExactStackProgramUptoRow : OpenClaim := { program := "ytmallhlddilmcaa", sum := "5bc4839de4785ff3de83bfccac96ccdbe3e9a075180049c64598dafe7bf90271", func := "loop.example/g01183/laws.FnExactStackProgram", spec := "fnExactStackProgram", apart := false, narrowed := true }
def FnExactStackProgramUptoSaid : Prop := fnExactStackProgramUptoRow.holds Try.pinned (OpenSpec.upto fnExactStackProgramSpec)

/-- 'laws.FnExactAreErrors', WHERE WHAT IT READS IS OF BULK AT MOST 1048576: true; the input reads as it did. -/
def fnExactAreErrorsUptoRow : OpenClaim := { program := "ytmallhlddilmcaa", sum := "5bc4839de4785ff3de83bfccac96ccdbe3e9a075180049c64598dafe7bf90271", func := "loop.example/g01183/laws.FnExactAreErrors", spec := "fnExactAreErrors", unfollowed := true, recurses := true, apart := false, narrowed := true }
def FnExactAreErrorsUptoSaid : Prop := fnExactAreErrorsUptoRow.holds Try.pinned (OpenSpec.upto fnExactAreErrorsSpec)

/-- 'laws.FnExactIsProgram', WHERE WHAT IT READS IS OF BULK AT MOST 1048576: true; the input reads as it did. -/
def fnExactIsProgramUptoRow : OpenClaim := { program := "ytmallhlddilmcaa", sum := "5bc4839de4785ff3de83bfccac96ccdbe3e9a075180049c64598dafe7bf90271", func := "loop.example/g01183/laws.FnExactIsProgram", spec := "fnExactIsProgram", unfollowed := true, recurses := true, apart := false, narrowed := true }
def FnExactIsProgramUptoSaid : Prop := fnExactIsProgramUptoRow.holds Try.pinned (OpenSpec.upto fnExactIsProgramSpec)

/-- 'laws.FnExactIsStep', WHERE WHAT IT READS IS OF BULK AT MOST 1048576: true; the input reads as it did. -/
def fnExactIsStepUptoRow : OpenClaim := { program := "ytmallhlddilmcaa", sum := "5bc4839de4785ff3de83bfccac96ccdbe3e9a075180049c64598dafe7bf90271", func := "loop.example/g01183/laws.FnExactIsStep", spec := "fnExactIsStep", unfollowed := true, recurses := true, apart := false, narrowed := true }
def FnExactIsStepUptoSaid : Prop := fnExactIsStepUptoRow.holds Try.pinned (OpenSpec.upto fnExactIsStepSpec)

/-- 'laws.FnExactCountWays', WHERE WHAT IT READS IS OF BULK AT MOST 1048576: true; the input reads as it did. -/
def fnExactCountWaysUptoRow : OpenClaim := { program := "ytmallhlddilmcaa", sum := "5bc4839de4785ff3de83bfccac96ccdbe3e9a075180049c64598dafe7bf90271", func := "loop.example/g01183/laws.FnExactCountWays", spec := "fnExactCountWays", unfollowed := true, recurses := true, apart := false, narrowed := true }
def FnExactCountWaysUptoSaid : Prop := fnExactCountWaysUptoRow.holds Try.pinned (OpenSpec.upto fnExactCountWaysSpec)

/-- 'laws.FnExactDepthOf', WHERE WHAT IT READS IS OF BULK AT MOST 1048576: true; the input reads as it did. -/
def fnExactDepthOfUptoRow : OpenClaim := { program := "ytmallhlddilmcaa", sum := "5bc4839de4785ff3de83bfccac96ccdbe3e9a075180049c64598dafe7bf90271", func := "loop.example/g01183/laws.FnExactDepthOf", spec := "fnExactDepthOf", unfollowed := true, recurses := true, apart := false, narrowed := true }
def FnExactDepthOfUptoSaid : Prop := fnExactDepthOfUptoRow.holds Try.pinned (OpenSpec.upto fnExactDepthOfSpec)

/-- 'laws.FnExactUnwrapError', WHERE WHAT IT READS IS OF BULK AT MOST 1048576: true; the input reads as it did. -/
def fnExactUnwrapErrorUptoRow : OpenClaim := { program := "ytmallhlddilmcaa", sum := "5bc4839de4785ff3de83bfccac96ccdbe3e9a075180049c64598dafe7bf90271", func := "loop.example/g01183/laws.FnExactUnwrapError", spec := "fnExactUnwrapError", unfollowed := true, recurses := true, apart := false, narrowed := true }
def FnExactUnwrapErrorUptoSaid : Prop := fnExactUnwrapErrorUptoRow.holds Try.pinned (OpenSpec.upto fnExactUnwrapErrorSpec)

/-- 'laws.FnExactIsError', WHERE WHAT IT READS IS OF BULK AT MOST 1048576: true; the input reads as it did. -/
def fnExactIsErrorUptoRow : OpenClaim := { program := "ytmallhlddilmcaa", sum := "5bc4839de4785ff3de83bfccac96ccdbe3e9a075180049c64598dafe7bf90271", func := "loop.example/g01183/laws.FnExactIsError", spec := "fnExactIsError", unfollowed := true, recurses := true, apart := false, narrowed := true }
def FnExactIsErrorUptoSaid : Prop := fnExactIsErrorUptoRow.holds Try.pinned (OpenSpec.upto fnExactIsErrorSpec)

/-- 'laws.FnExactAreAlike', WHERE WHAT IT READS IS OF BULK AT MOST 1048576: true; the input reads as it did. -/
def fnExactAreAlikeUptoRow : OpenClaim := { program := "ytmallhlddilmcaa", sum := "5bc4839de4785ff3de83bfccac96ccdbe3e9a075180049c64598dafe7bf90271", func := "loop.example/g01183/laws.FnExactAreAlike", spec := "fnExactAreAlike", unfollowed := true, recurses := true, apart := false, narrowed := true }
def FnExactAreAlikeUptoSaid : Prop := fnExactAreAlikeUptoRow.holds Try.pinned (OpenSpec.upto fnExactAreAlikeSpec)

end Rows
end Go.Proofs.Ytmallhlddilmcaa
