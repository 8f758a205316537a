/-
  No cell of these rows narrows 'for every input' (looked for: loops, veiled, ifaces, maps, wideKeys, modest, calm, conditions, laid).
  DERIVED. THE GIVEN ROWS OF THIS SEAT. 12 by the template 'for every input the law returns true; each argument reads behind the call as it read before'; 0 by the template 'total and deterministic' (their statements: YtobikkdnalnllaaTotals.lean).
  GIVEN WITH THE SEED: the statements are not yours to turn. If you find one false, say at which input.
  Laid BY PROGRAM, IN A SANDBOX (cutbox-rows.mjs): the forced cells as the released guide's own fill.sh prints them over the translation bbd13513bfa77083… (all of the seat's roots in one cut). By AI agents, Wed Nov 11 2026. No macro, syntax, notation, axiom, sorry.
-/
import Derived.Test.YtobikkdnalnllaaChecked
import GoSem.Claim
import GoSem.ClaimJoined
import GoSem.ClaimMapViews
import Derived.JoinedTies
import Derived.KernelRfl
namespace Go.Proofs.Ytobikkdnalnllaa
/- THE CELL 'sum', in the pinned program and in every row, IS THE sha256 OF THE DUMP (.gsa) THAT YtobikkdnalnllaaProg.lean LOADS. Nothing in Lean hashes anything: it is a label: what it is worth is what the hold of that sum in a sandbox is worth. -/
noncomputable def Try.pinned : Pinned := { name := "ytobikkdnalnllaa", sum := "bbd13513bfa7708391eb3c0e3c857e098afcf2c810d4f59a6d201b187ed20154", checked := Try.checked }
namespace Rows
def none {H : Type} : Left H := { results := [], args := [] }

/-- 'laws.FnExactPanickingArgs': WHATEVER THE INPUT: true; the input reads as it did. -/
def fnExactPanickingArgsSpec : ChangeSpec := { name := "fnExactPanickingArgs", fn := fun _ => fun
  | [d1, d2, d3, d4, d5] => { results := [.lit (.bool true)], args := [d1, d2, d3, d4, d5] }
  | _ => none }
def fnExactPanickingArgsRow : OpenClaim := { program := "ytobikkdnalnllaa", sum := "bbd13513bfa7708391eb3c0e3c857e098afcf2c810d4f59a6d201b187ed20154", func := "loop.example/g01183/laws.FnExactPanickingArgs", spec := "fnExactPanickingArgs", unfollowed := true, recurses := true, plainKeys := false, apart := false }
def FnExactPanickingArgsSaid : Prop := fnExactPanickingArgsRow.holds Try.pinned (OpenSpec.ofChange fnExactPanickingArgsSpec)

/-- ITS FALSE NEIGHBOUR: 'it returns false'. Refute it at one input. -/
def fnExactPanickingArgsWrong : ChangeSpec := { name := "fnExactPanickingArgs", fn := fun _ => fun
  | [d1, d2, d3, d4, d5] => { results := [.lit (.bool false)], args := [d1, d2, d3, d4, d5] }
  | _ => none }
def FnExactPanickingArgsWrongFalsely : Prop := fnExactPanickingArgsRow.holds Try.pinned (OpenSpec.ofChange fnExactPanickingArgsWrong)

/-- 'laws.FnExactPanicValues': WHATEVER THE INPUT: true; the input reads as it did. -/
def fnExactPanicValuesSpec : ChangeSpec := { name := "fnExactPanicValues", fn := fun _ => fun
  | [d1, d2, d3, d4, d5] => { results := [.lit (.bool true)], args := [d1, d2, d3, d4, d5] }
  | _ => none }
def fnExactPanicValuesRow : OpenClaim := { program := "ytobikkdnalnllaa", sum := "bbd13513bfa7708391eb3c0e3c857e098afcf2c810d4f59a6d201b187ed20154", func := "loop.example/g01183/laws.FnExactPanicValues", spec := "fnExactPanicValues", unfollowed := true, recurses := true, plainKeys := false, apart := false }
def FnExactPanicValuesSaid : Prop := fnExactPanicValuesRow.holds Try.pinned (OpenSpec.ofChange fnExactPanicValuesSpec)

/-- ITS FALSE NEIGHBOUR: 'it returns false'. Refute it at one input. -/
def fnExactPanicValuesWrong : ChangeSpec := { name := "fnExactPanicValues", fn := fun _ => fun
  | [d1, d2, d3, d4, d5] => { results := [.lit (.bool false)], args := [d1, d2, d3, d4, d5] }
  | _ => none }
def FnExactPanicValuesWrongFalsely : Prop := fnExactPanicValuesRow.holds Try.pinned (OpenSpec.ofChange fnExactPanicValuesWrong)

/-- 'laws.FnExactRethrows': WHATEVER THE INPUT: true; the input reads as it did. -/
def fnExactRethrowsSpec : ChangeSpec := { name := "fnExactRethrows", fn := fun _ => fun
  | [d1, d2, d3, d4] => { results := [.lit (.bool true)], args := [d1, d2, d3, d4] }
  | _ => none }
def fnExactRethrowsRow : OpenClaim := { program := "ytobikkdnalnllaa", sum := "bbd13513bfa7708391eb3c0e3c857e098afcf2c810d4f59a6d201b187ed20154", func := "loop.example/g01183/laws.FnExactRethrows", spec := "fnExactRethrows", unfollowed := true, recurses := true, plainKeys := false, apart := false }
def FnExactRethrowsSaid : Prop := fnExactRethrowsRow.holds Try.pinned (OpenSpec.ofChange fnExactRethrowsSpec)

/-- ITS FALSE NEIGHBOUR: 'it returns false'. Refute it at one input. -/
def fnExactRethrowsWrong : ChangeSpec := { name := "fnExactRethrows", fn := fun _ => fun
  | [d1, d2, d3, d4] => { results := [.lit (.bool false)], args := [d1, d2, d3, d4] }
  | _ => none }
def FnExactRethrowsWrongFalsely : Prop := fnExactRethrowsRow.holds Try.pinned (OpenSpec.ofChange fnExactRethrowsWrong)

/-- 'laws.FnExactSavedEnds': WHATEVER THE INPUT: true; the input reads as it did. -/
def fnExactSavedEndsSpec : ChangeSpec := { name := "fnExactSavedEnds", fn := fun _ => fun
  | [d1, d2, d3, d4] => { results := [.lit (.bool true)], args := [d1, d2, d3, d4] }
  | _ => none }
def fnExactSavedEndsRow : OpenClaim := { program := "ytobikkdnalnllaa", sum := "bbd13513bfa7708391eb3c0e3c857e098afcf2c810d4f59a6d201b187ed20154", func := "loop.example/g01183/laws.FnExactSavedEnds", spec := "fnExactSavedEnds", unfollowed := true, recurses := true, plainKeys := false, apart := false }
def FnExactSavedEndsSaid : Prop := fnExactSavedEndsRow.holds Try.pinned (OpenSpec.ofChange fnExactSavedEndsSpec)

/-- ITS FALSE NEIGHBOUR: 'it returns false'. Refute it at one input. -/
def fnExactSavedEndsWrong : ChangeSpec := { name := "fnExactSavedEnds", fn := fun _ => fun
  | [d1, d2, d3, d4] => { results := [.lit (.bool false)], args := [d1, d2, d3, d4] }
  | _ => none }
def FnExactSavedEndsWrongFalsely : Prop := fnExactSavedEndsRow.holds Try.pinned (OpenSpec.ofChange fnExactSavedEndsWrong)

/-- 'laws.FnExactOpenPanics': WHATEVER THE INPUT: true; the input reads as it did. -/
def fnExactOpenPanicsSpec : ChangeSpec := { name := "fnExactOpenPanics", fn := fun _ => fun
  | [d1, d2, d3, d4] => { results := [.lit (.bool true)], args := [d1, d2, d3, d4] }
  | _ => none }
def fnExactOpenPanicsRow : OpenClaim := { program := "ytobikkdnalnllaa", sum := "bbd13513bfa7708391eb3c0e3c857e098afcf2c810d4f59a6d201b187ed20154", func := "loop.example/g01183/laws.FnExactOpenPanics", spec := "fnExactOpenPanics", unfollowed := true, recurses := true, plainKeys := false, apart := false }
def FnExactOpenPanicsSaid : Prop := fnExactOpenPanicsRow.holds Try.pinned (OpenSpec.ofChange fnExactOpenPanicsSpec)

/-- ITS FALSE NEIGHBOUR: 'it returns false'. Refute it at one input. -/
def fnExactOpenPanicsWrong : ChangeSpec := { name := "fnExactOpenPanics", fn := fun _ => fun
  | [d1, d2, d3, d4] => { results := [.lit (.bool false)], args := [d1, d2, d3, d4] }
  | _ => none }
def FnExactOpenPanicsWrongFalsely : Prop := fnExactOpenPanicsRow.holds Try.pinned (OpenSpec.ofChange fnExactOpenPanicsWrong)

/-- 'laws.FnExactUnwoundBy': WHATEVER THE INPUT: true; the input reads as it did. -/
def fnExactUnwoundBySpec : ChangeSpec := { name := "fnExactUnwoundBy", fn := fun _ => fun
  | [d1, d2, d3, d4, d5] => { results := [.lit (.bool true)], args := [d1, d2, d3, d4, d5] }
  | _ => none }
def fnExactUnwoundByRow : OpenClaim := { program := "ytobikkdnalnllaa", sum := "bbd13513bfa7708391eb3c0e3c857e098afcf2c810d4f59a6d201b187ed20154", func := "loop.example/g01183/laws.FnExactUnwoundBy", spec := "fnExactUnwoundBy", unfollowed := true, recurses := true, plainKeys := false, apart := false }
def FnExactUnwoundBySaid : Prop := fnExactUnwoundByRow.holds Try.pinned (OpenSpec.ofChange fnExactUnwoundBySpec)

/-- ITS FALSE NEIGHBOUR: 'it returns false'. Refute it at one input. -/
def fnExactUnwoundByWrong : ChangeSpec := { name := "fnExactUnwoundBy", fn := fun _ => fun
  | [d1, d2, d3, d4, d5] => { results := [.lit (.bool false)], args := [d1, d2, d3, d4, d5] }
  | _ => none }
def FnExactUnwoundByWrongFalsely : Prop := fnExactUnwoundByRow.holds Try.pinned (OpenSpec.ofChange fnExactUnwoundByWrong)

/-- 'laws.FnExactPanicDepths': WHATEVER THE INPUT: true; the input reads as it did. -/
def fnExactPanicDepthsSpec : ChangeSpec := { name := "fnExactPanicDepths", fn := fun _ => fun
  | [d1, d2, d3, d4] => { results := [.lit (.bool true)], args := [d1, d2, d3, d4] }
  | _ => none }
def fnExactPanicDepthsRow : OpenClaim := { program := "ytobikkdnalnllaa", sum := "bbd13513bfa7708391eb3c0e3c857e098afcf2c810d4f59a6d201b187ed20154", func := "loop.example/g01183/laws.FnExactPanicDepths", spec := "fnExactPanicDepths", unfollowed := true, recurses := true, plainKeys := false, apart := false }
def FnExactPanicDepthsSaid : Prop := fnExactPanicDepthsRow.holds Try.pinned (OpenSpec.ofChange fnExactPanicDepthsSpec)

/-- ITS FALSE NEIGHBOUR: 'it returns false'. Refute it at one input. -/
def fnExactPanicDepthsWrong : ChangeSpec := { name := "fnExactPanicDepths", fn := fun _ => fun
  | [d1, d2, d3, d4] => { results := [.lit (.bool false)], args := [d1, d2, d3, d4] }
  | _ => none }
def FnExactPanicDepthsWrongFalsely : Prop := fnExactPanicDepthsRow.holds Try.pinned (OpenSpec.ofChange fnExactPanicDepthsWrong)

/-- 'laws.FnExactReplacedBy': WHATEVER THE INPUT: true; the input reads as it did. -/
def fnExactReplacedBySpec : ChangeSpec := { name := "fnExactReplacedBy", fn := fun _ => fun
  | [d1, d2, d3, d4] => { results := [.lit (.bool true)], args := [d1, d2, d3, d4] }
  | _ => none }
def fnExactReplacedByRow : OpenClaim := { program := "ytobikkdnalnllaa", sum := "bbd13513bfa7708391eb3c0e3c857e098afcf2c810d4f59a6d201b187ed20154", func := "loop.example/g01183/laws.FnExactReplacedBy", spec := "fnExactReplacedBy", unfollowed := true, recurses := true, plainKeys := false, apart := false }
def FnExactReplacedBySaid : Prop := fnExactReplacedByRow.holds Try.pinned (OpenSpec.ofChange fnExactReplacedBySpec)

/-- ITS FALSE NEIGHBOUR: 'it returns false'. Refute it at one input. -/
def fnExactReplacedByWrong : ChangeSpec := { name := "fnExactReplacedBy", fn := fun _ => fun
  | [d1, d2, d3, d4] => { results := [.lit (.bool false)], args := [d1, d2, d3, d4] }
  | _ => none }
def FnExactReplacedByWrongFalsely : Prop := fnExactReplacedByRow.holds Try.pinned (OpenSpec.ofChange fnExactReplacedByWrong)

/-- 'laws.FnExactPanicFates': WHATEVER THE INPUT: true; the input reads as it did. -/
def fnExactPanicFatesSpec : ChangeSpec := { name := "fnExactPanicFates", fn := fun _ => fun
  | [d1, d2, d3, d4] => { results := [.lit (.bool true)], args := [d1, d2, d3, d4] }
  | _ => none }
def fnExactPanicFatesRow : OpenClaim := { program := "ytobikkdnalnllaa", sum := "bbd13513bfa7708391eb3c0e3c857e098afcf2c810d4f59a6d201b187ed20154", func := "loop.example/g01183/laws.FnExactPanicFates", spec := "fnExactPanicFates", unfollowed := true, recurses := true, plainKeys := false, apart := false }
def FnExactPanicFatesSaid : Prop := fnExactPanicFatesRow.holds Try.pinned (OpenSpec.ofChange fnExactPanicFatesSpec)

/-- ITS FALSE NEIGHBOUR: 'it returns false'. Refute it at one input. -/
def fnExactPanicFatesWrong : ChangeSpec := { name := "fnExactPanicFates", fn := fun _ => fun
  | [d1, d2, d3, d4] => { results := [.lit (.bool false)], args := [d1, d2, d3, d4] }
  | _ => none }
def FnExactPanicFatesWrongFalsely : Prop := fnExactPanicFatesRow.holds Try.pinned (OpenSpec.ofChange fnExactPanicFatesWrong)

/-- 'laws.FnExactRecoveredBy': WHATEVER THE INPUT: true; the input reads as it did. -/
def fnExactRecoveredBySpec : ChangeSpec := { name := "fnExactRecoveredBy", fn := fun _ => fun
  | [d1, d2, d3, d4] => { results := [.lit (.bool true)], args := [d1, d2, d3, d4] }
  | _ => none }
def fnExactRecoveredByRow : OpenClaim := { program := "ytobikkdnalnllaa", sum := "bbd13513bfa7708391eb3c0e3c857e098afcf2c810d4f59a6d201b187ed20154", func := "loop.example/g01183/laws.FnExactRecoveredBy", spec := "fnExactRecoveredBy", unfollowed := true, recurses := true, plainKeys := false, apart := false }
def FnExactRecoveredBySaid : Prop := fnExactRecoveredByRow.holds Try.pinned (OpenSpec.ofChange fnExactRecoveredBySpec)

/-- ITS FALSE NEIGHBOUR: 'it returns false'. Refute it at one input. -/
def fnExactRecoveredByWrong : ChangeSpec := { name := "fnExactRecoveredBy", fn := fun _ => fun
  | [d1, d2, d3, d4] => { results := [.lit (.bool false)], args := [d1, d2, d3, d4] }
  | _ => none }
def FnExactRecoveredByWrongFalsely : Prop := fnExactRecoveredByRow.holds Try.pinned (OpenSpec.ofChange fnExactRecoveredByWrong)

/-- 'laws.FnExactPanicChain': WHATEVER THE INPUT: true; the input reads as it did. -/
def fnExactPanicChainSpec : ChangeSpec := { name := "fnExactPanicChain", fn := fun _ => fun
  | [d1, d2, d3, d4] => { results := [.lit (.bool true)], args := [d1, d2, d3, d4] }
  | _ => none }
def fnExactPanicChainRow : OpenClaim := { program := "ytobikkdnalnllaa", sum := "bbd13513bfa7708391eb3c0e3c857e098afcf2c810d4f59a6d201b187ed20154", func := "loop.example/g01183/laws.FnExactPanicChain", spec := "fnExactPanicChain", unfollowed := true, recurses := true, plainKeys := false, apart := false }
def FnExactPanicChainSaid : Prop := fnExactPanicChainRow.holds Try.pinned (OpenSpec.ofChange fnExactPanicChainSpec)

/-- ITS FALSE NEIGHBOUR: 'it returns false'. Refute it at one input. -/
def fnExactPanicChainWrong : ChangeSpec := { name := "fnExactPanicChain", fn := fun _ => fun
  | [d1, d2, d3, d4] => { results := [.lit (.bool false)], args := [d1, d2, d3, d4] }
  | _ => none }
def FnExactPanicChainWrongFalsely : Prop := fnExactPanicChainRow.holds Try.pinned (OpenSpec.ofChange fnExactPanicChainWrong)

/-- 'laws.FnExactRecoverGaps': WHATEVER THE INPUT: true; the input reads as it did. -/
def fnExactRecoverGapsSpec : ChangeSpec := { name := "fnExactRecoverGaps", fn := fun _ => fun
  | [d1, d2, d3, d4] => { results := [.lit (.bool true)], args := [d1, d2, d3, d4] }
  | _ => none }
def fnExactRecoverGapsRow : OpenClaim := { program := "ytobikkdnalnllaa", sum := "bbd13513bfa7708391eb3c0e3c857e098afcf2c810d4f59a6d201b187ed20154", func := "loop.example/g01183/laws.FnExactRecoverGaps", spec := "fnExactRecoverGaps", unfollowed := true, recurses := true, plainKeys := false, apart := false }
def FnExactRecoverGapsSaid : Prop := fnExactRecoverGapsRow.holds Try.pinned (OpenSpec.ofChange fnExactRecoverGapsSpec)

/-- ITS FALSE NEIGHBOUR: 'it returns false'. Refute it at one input. -/
def fnExactRecoverGapsWrong : ChangeSpec := { name := "fnExactRecoverGaps", fn := fun _ => fun
  | [d1, d2, d3, d4] => { results := [.lit (.bool false)], args := [d1, d2, d3, d4] }
  | _ => none }
def FnExactRecoverGapsWrongFalsely : Prop := fnExactRecoverGapsRow.holds Try.pinned (OpenSpec.ofChange fnExactRecoverGapsWrong)

/- THE SECOND FORM. 'bulk': how many values and letters a reading holds, each counted each time it is reached (what is shared counts as often as it is met; a slice's spare places count too). A statement '..UptoSaid' is the law's where the arguments, and the package variables that the reading takes, are together of bulk at most 1048576: NARROWER than '..Said'. Prove '..Said' where nothing that the law and all that it calls make is longer than what came in: it says more and counts as full. Else prove '..UptoSaid'. A law counts once. -/
mutual
def uptoBulk {H : Type} : DataW H → Nat
  | .lit (.string bytes) => bytes.length + 1
  | .lit _ => 1
  | .nil => 1
  | .ptr d => uptoBulk d + 1
  | .slice elems spare => uptoBulkAll elems + uptoBulkAll spare + 1
  | .agg parts => uptoBulkAll parts + 1
  | .iface _ d => uptoBulk d + 1
  | .map entries => uptoBulkEntries entries + 1
  | .held _ => 1
def uptoBulkAll {H : Type} : List (DataW H) → Nat
  | [] => 0
  | d :: r => uptoBulk d + uptoBulkAll r
def uptoBulkEntries {H : Type} : List (Lit × DataW H) → Nat
  | [] => 0
  | x :: r => uptoBulkEntry x + uptoBulkEntries r
def uptoBulkEntry {H : Type} : Lit × DataW H → Nat
  | (.string bytes, d) => bytes.length + uptoBulk d + 1
  | (_, d) => uptoBulk d + 1
 end
def uptoSmall : (H : Type) → List (DataW H) → Bool := fun _ ds => decide (uptoBulkAll ds ≤ 1048576)
def OpenSpec.upto (s : _root_.Go.ChangeSpec) : _root_.Go.OpenSpec := { _root_.Go.OpenSpec.ofChange s with cond := some uptoSmall }

/-- 'laws.FnExactPanickingArgs', WHERE WHAT IT READS IS OF BULK AT MOST 1048576: true; the input reads as it did. -/
def fnExactPanickingArgsUptoRow : OpenClaim := { program := "ytobikkdnalnllaa", sum := "bbd13513bfa7708391eb3c0e3c857e098afcf2c810d4f59a6d201b187ed20154", func := "loop.example/g01183/laws.FnExactPanickingArgs", spec := "fnExactPanickingArgs", unfollowed := true, recurses := true, plainKeys := false, apart := false, narrowed := true }
def FnExactPanickingArgsUptoSaid : Prop := fnExactPanickingArgsUptoRow.holds Try.pinned (OpenSpec.upto fnExactPanickingArgsSpec)

/-- 'laws.FnExactPanicValues', WHERE WHAT IT READS IS OF BULK AT MOST 1048576: true; the input reads as it did. -/
def fnExactPanicValuesUptoRow : OpenClaim := { program := "ytobikkdnalnllaa", sum := "bbd13513bfa7708391eb3c0e3c857e098afcf2c810d4f59a6d201b187ed20154", func := "loop.example/g01183/laws.FnExactPanicValues", spec := "fnExactPanicValues", unfollowed := true, recurses := true, plainKeys := false, apart := false, narrowed := true }
def FnExactPanicValuesUptoSaid : Prop := fnExactPanicValuesUptoRow.holds Try.pinned (OpenSpec.upto fnExactPanicValuesSpec)

/-- 'laws.FnExactRethrows', WHERE WHAT IT READS IS OF BULK AT MOST 1048576: true; the input reads as it did. -/
def fnExactRethrowsUptoRow : OpenClaim := { program := "ytobikkdnalnllaa", sum := "bbd13513bfa7708391eb3c0e3c857e098afcf2c810d4f59a6d201b187ed20154", func := "loop.example/g01183/laws.FnExactRethrows", spec := "fnExactRethrows", unfollowed := true, recurses := true, plainKeys := false, apart := false, narrowed := true }
def FnExactRethrowsUptoSaid : Prop := fnExactRethrowsUptoRow.holds Try.pinned (OpenSpec.upto fnExactRethrowsSpec)

/-- 'laws.FnExactSavedEnds', WHERE WHAT IT READS IS OF BULK AT MOST 1048576: true; the input reads as it did. -/
def fnExactSavedEndsUptoRow : OpenClaim := { program := "ytobikkdnalnllaa", sum := "bbd13513bfa7708391eb3c0e3c857e098afcf2c810d4f59a6d201b187ed20154", func := "loop.example/g01183/laws.FnExactSavedEnds", spec := "fnExactSavedEnds", unfollowed := true, recurses := true, plainKeys := false, apart := false, narrowed := true }
def FnExactSavedEndsUptoSaid : Prop := fnExactSavedEndsUptoRow.holds Try.pinned (OpenSpec.upto fnExactSavedEndsSpec)

/-- 'laws.FnExactOpenPanics', WHERE WHAT IT READS IS OF BULK AT MOST 1048576: true; the input reads as it did. -/
def fnExactOpenPanicsUptoRow : OpenClaim := { program := "ytobikkdnalnllaa", sum := "bbd13513bfa7708391eb3c0e3c857e098afcf2c810d4f59a6d201b187ed20154", func := "loop.example/g01183/laws.FnExactOpenPanics", spec := "fnExactOpenPanics", unfollowed := true, recurses := true, plainKeys := false, apart := false, narrowed := true }
def FnExactOpenPanicsUptoSaid : Prop := fnExactOpenPanicsUptoRow.holds Try.pinned (OpenSpec.upto fnExactOpenPanicsSpec)

/-- 'laws.FnExactUnwoundBy', WHERE WHAT IT READS IS OF BULK AT MOST 1048576: true; the input reads as it did. -/
def fnExactUnwoundByUptoRow : OpenClaim := { program := "ytobikkdnalnllaa", sum := "bbd13513bfa7708391eb3c0e3c857e098afcf2c810d4f59a6d201b187ed20154", func := "loop.example/g01183/laws.FnExactUnwoundBy", spec := "fnExactUnwoundBy", unfollowed := true, recurses := true, plainKeys := false, apart := false, narrowed := true }
def FnExactUnwoundByUptoSaid : Prop := fnExactUnwoundByUptoRow.holds Try.pinned (OpenSpec.upto fnExactUnwoundBySpec)

/-- 'laws.FnExactPanicDepths', WHERE WHAT IT READS IS OF BULK AT MOST 1048576: true; the input reads as it did. -/
def fnExactPanicDepthsUptoRow : OpenClaim := { program := "ytobikkdnalnllaa", sum := "bbd13513bfa7708391eb3c0e3c857e098afcf2c810d4f59a6d201b187ed20154", func := "loop.example/g01183/laws.FnExactPanicDepths", spec := "fnExactPanicDepths", unfollowed := true, recurses := true, plainKeys := false, apart := false, narrowed := true }
def FnExactPanicDepthsUptoSaid : Prop := fnExactPanicDepthsUptoRow.holds Try.pinned (OpenSpec.upto fnExactPanicDepthsSpec)

/-- 'laws.FnExactReplacedBy', WHERE WHAT IT READS IS OF BULK AT MOST 1048576: true; the input reads as it did. -/
def fnExactReplacedByUptoRow : OpenClaim := { program := "ytobikkdnalnllaa", sum := "bbd13513bfa7708391eb3c0e3c857e098afcf2c810d4f59a6d201b187ed20154", func := "loop.example/g01183/laws.FnExactReplacedBy", spec := "fnExactReplacedBy", unfollowed := true, recurses := true, plainKeys := false, apart := false, narrowed := true }
def FnExactReplacedByUptoSaid : Prop := fnExactReplacedByUptoRow.holds Try.pinned (OpenSpec.upto fnExactReplacedBySpec)

/-- 'laws.FnExactPanicFates', WHERE WHAT IT READS IS OF BULK AT MOST 1048576: true; the input reads as it did. -/
def fnExactPanicFatesUptoRow : OpenClaim := { program := "ytobikkdnalnllaa", sum := "bbd13513bfa7708391eb3c0e3c857e098afcf2c810d4f59a6d201b187ed20154", func := "loop.example/g01183/laws.FnExactPanicFates", spec := "fnExactPanicFates", unfollowed := true, recurses := true, plainKeys := false, apart := false, narrowed := true }
def FnExactPanicFatesUptoSaid : Prop := fnExactPanicFatesUptoRow.holds Try.pinned (OpenSpec.upto fnExactPanicFatesSpec)

/-- 'laws.FnExactRecoveredBy', WHERE WHAT IT READS IS OF BULK AT MOST 1048576: true; the input reads as it did. -/
def fnExactRecoveredByUptoRow : OpenClaim := { program := "ytobikkdnalnllaa", sum := "bbd13513bfa7708391eb3c0e3c857e098afcf2c810d4f59a6d201b187ed20154", func := "loop.example/g01183/laws.FnExactRecoveredBy", spec := "fnExactRecoveredBy", unfollowed := true, recurses := true, plainKeys := false, apart := false, narrowed := true }
def FnExactRecoveredByUptoSaid : Prop := fnExactRecoveredByUptoRow.holds Try.pinned (OpenSpec.upto fnExactRecoveredBySpec)

/-- 'laws.FnExactPanicChain', WHERE WHAT IT READS IS OF BULK AT MOST 1048576: true; the input reads as it did. -/
def fnExactPanicChainUptoRow : OpenClaim := { program := "ytobikkdnalnllaa", sum := "bbd13513bfa7708391eb3c0e3c857e098afcf2c810d4f59a6d201b187ed20154", func := "loop.example/g01183/laws.FnExactPanicChain", spec := "fnExactPanicChain", unfollowed := true, recurses := true, plainKeys := false, apart := false, narrowed := true }
def FnExactPanicChainUptoSaid : Prop := fnExactPanicChainUptoRow.holds Try.pinned (OpenSpec.upto fnExactPanicChainSpec)

/-- 'laws.FnExactRecoverGaps', WHERE WHAT IT READS IS OF BULK AT MOST 1048576: true; the input reads as it did. -/
def fnExactRecoverGapsUptoRow : OpenClaim := { program := "ytobikkdnalnllaa", sum := "bbd13513bfa7708391eb3c0e3c857e098afcf2c810d4f59a6d201b187ed20154", func := "loop.example/g01183/laws.FnExactRecoverGaps", spec := "fnExactRecoverGaps", unfollowed := true, recurses := true, plainKeys := false, apart := false, narrowed := true }
def FnExactRecoverGapsUptoSaid : Prop := fnExactRecoverGapsUptoRow.holds Try.pinned (OpenSpec.upto fnExactRecoverGapsSpec)

end Rows
end Go.Proofs.Ytobikkdnalnllaa
