/-
  No cell of these rows narrows 'for every input' (looked for: loops, veiled, ifaces, maps, wideKeys, modest, calm, conditions, laid).
  DERIVED. THE GIVEN ROWS OF THIS SEAT. 10 by the template 'for every input the law returns true; each argument reads behind the call as it read before'; 0 by the template 'total and deterministic' (their statements: YtnmbmdigiaokjaaTotals.lean).
  GIVEN WITH THE SEED: the statements are not yours to turn. If you find one false, say at which input.
  Laid BY PROGRAM, IN A SANDBOX (cutbox-rows.mjs): the forced cells as the released guide's own fill.sh prints them over the translation 5ee00bc167c8232d… (all of the seat's roots in one cut). By AI agents, Wed Nov 11 2026. No macro, syntax, notation, axiom, sorry.
-/
import Derived.Test.YtnmbmdigiaokjaaChecked
import GoSem.Claim
import GoSem.ClaimJoined
import GoSem.ClaimMapViews
import Derived.JoinedTies
import Derived.KernelRfl
namespace Go.Proofs.Ytnmbmdigiaokjaa
/- THE CELL 'sum', in the pinned program and in every row, IS THE sha256 OF THE DUMP (.gsa) THAT YtnmbmdigiaokjaaProg.lean LOADS. Nothing in Lean hashes anything: it is a label: what it is worth is what the hold of that sum in a sandbox is worth. -/
noncomputable def Try.pinned : Pinned := { name := "ytnmbmdigiaokjaa", sum := "5ee00bc167c8232d98513ee16a8465489a96407beebe1c33ba873e8269e04ad0", checked := Try.checked }
namespace Rows
def none {H : Type} : Left H := { results := [], args := [] }

/-- 'laws.FnExactServesAs': WHATEVER THE INPUT: true; the input reads as it did. -/
def fnExactServesAsSpec : ChangeSpec := { name := "fnExactServesAs", fn := fun _ => fun
  | [d1, d2, d3] => { results := [.lit (.bool true)], args := [d1, d2, d3] }
  | _ => none }
def fnExactServesAsRow : OpenClaim := { program := "ytnmbmdigiaokjaa", sum := "5ee00bc167c8232d98513ee16a8465489a96407beebe1c33ba873e8269e04ad0", func := "loop.example/g01183/laws.FnExactServesAs", spec := "fnExactServesAs", unfollowed := true, recurses := true, apart := false }
def FnExactServesAsSaid : Prop := fnExactServesAsRow.holds Try.pinned (OpenSpec.ofChange fnExactServesAsSpec)

/-- ITS FALSE NEIGHBOUR: 'it returns false'. Refute it at one input. -/
def fnExactServesAsWrong : ChangeSpec := { name := "fnExactServesAs", fn := fun _ => fun
  | [d1, d2, d3] => { results := [.lit (.bool false)], args := [d1, d2, d3] }
  | _ => none }
def FnExactServesAsWrongFalsely : Prop := fnExactServesAsRow.holds Try.pinned (OpenSpec.ofChange fnExactServesAsWrong)

/-- 'laws.FnExactWalkOf': WHATEVER THE INPUT: true; the input reads as it did. -/
def fnExactWalkOfSpec : ChangeSpec := { name := "fnExactWalkOf", fn := fun _ => fun
  | [d1, d2] => { results := [.lit (.bool true)], args := [d1, d2] }
  | _ => none }
def fnExactWalkOfRow : OpenClaim := { program := "ytnmbmdigiaokjaa", sum := "5ee00bc167c8232d98513ee16a8465489a96407beebe1c33ba873e8269e04ad0", func := "loop.example/g01183/laws.FnExactWalkOf", spec := "fnExactWalkOf", unfollowed := true, recurses := true, apart := false }
def FnExactWalkOfSaid : Prop := fnExactWalkOfRow.holds Try.pinned (OpenSpec.ofChange fnExactWalkOfSpec)

/-- ITS FALSE NEIGHBOUR: 'it returns false'. Refute it at one input. -/
def fnExactWalkOfWrong : ChangeSpec := { name := "fnExactWalkOf", fn := fun _ => fun
  | [d1, d2] => { results := [.lit (.bool false)], args := [d1, d2] }
  | _ => none }
def FnExactWalkOfWrongFalsely : Prop := fnExactWalkOfRow.holds Try.pinned (OpenSpec.ofChange fnExactWalkOfWrong)

/-- 'laws.FnExactWrapError': WHATEVER THE INPUT: true; the input reads as it did. -/
def fnExactWrapErrorSpec : ChangeSpec := { name := "fnExactWrapError", fn := fun _ => fun
  | [d1, d2, d3] => { results := [.lit (.bool true)], args := [d1, d2, d3] }
  | _ => none }
def fnExactWrapErrorRow : OpenClaim := { program := "ytnmbmdigiaokjaa", sum := "5ee00bc167c8232d98513ee16a8465489a96407beebe1c33ba873e8269e04ad0", func := "loop.example/g01183/laws.FnExactWrapError", spec := "fnExactWrapError", unfollowed := true, recurses := true, apart := false }
def FnExactWrapErrorSaid : Prop := fnExactWrapErrorRow.holds Try.pinned (OpenSpec.ofChange fnExactWrapErrorSpec)

/-- ITS FALSE NEIGHBOUR: 'it returns false'. Refute it at one input. -/
def fnExactWrapErrorWrong : ChangeSpec := { name := "fnExactWrapError", fn := fun _ => fun
  | [d1, d2, d3] => { results := [.lit (.bool false)], args := [d1, d2, d3] }
  | _ => none }
def FnExactWrapErrorWrongFalsely : Prop := fnExactWrapErrorRow.holds Try.pinned (OpenSpec.ofChange fnExactWrapErrorWrong)

/-- 'laws.FnExactJoinErrors': WHATEVER THE INPUT: true; the input reads as it did. -/
def fnExactJoinErrorsSpec : ChangeSpec := { name := "fnExactJoinErrors", fn := fun _ => fun
  | [d1, d2] => { results := [.lit (.bool true)], args := [d1, d2] }
  | _ => none }
def fnExactJoinErrorsRow : OpenClaim := { program := "ytnmbmdigiaokjaa", sum := "5ee00bc167c8232d98513ee16a8465489a96407beebe1c33ba873e8269e04ad0", func := "loop.example/g01183/laws.FnExactJoinErrors", spec := "fnExactJoinErrors", unfollowed := true, recurses := true, apart := false }
def FnExactJoinErrorsSaid : Prop := fnExactJoinErrorsRow.holds Try.pinned (OpenSpec.ofChange fnExactJoinErrorsSpec)

/-- ITS FALSE NEIGHBOUR: 'it returns false'. Refute it at one input. -/
def fnExactJoinErrorsWrong : ChangeSpec := { name := "fnExactJoinErrors", fn := fun _ => fun
  | [d1, d2] => { results := [.lit (.bool false)], args := [d1, d2] }
  | _ => none }
def FnExactJoinErrorsWrongFalsely : Prop := fnExactJoinErrorsRow.holds Try.pinned (OpenSpec.ofChange fnExactJoinErrorsWrong)

/-- 'laws.FnExactLeavesOf': WHATEVER THE INPUT: true; the input reads as it did. -/
def fnExactLeavesOfSpec : ChangeSpec := { name := "fnExactLeavesOf", fn := fun _ => fun
  | [d1, d2] => { results := [.lit (.bool true)], args := [d1, d2] }
  | _ => none }
def fnExactLeavesOfRow : OpenClaim := { program := "ytnmbmdigiaokjaa", sum := "5ee00bc167c8232d98513ee16a8465489a96407beebe1c33ba873e8269e04ad0", func := "loop.example/g01183/laws.FnExactLeavesOf", spec := "fnExactLeavesOf", unfollowed := true, recurses := true, apart := false }
def FnExactLeavesOfSaid : Prop := fnExactLeavesOfRow.holds Try.pinned (OpenSpec.ofChange fnExactLeavesOfSpec)

/-- ITS FALSE NEIGHBOUR: 'it returns false'. Refute it at one input. -/
def fnExactLeavesOfWrong : ChangeSpec := { name := "fnExactLeavesOf", fn := fun _ => fun
  | [d1, d2] => { results := [.lit (.bool false)], args := [d1, d2] }
  | _ => none }
def FnExactLeavesOfWrongFalsely : Prop := fnExactLeavesOfRow.holds Try.pinned (OpenSpec.ofChange fnExactLeavesOfWrong)

/-- 'laws.FnExactPruneErrors': WHATEVER THE INPUT: true; the input reads as it did. -/
def fnExactPruneErrorsSpec : ChangeSpec := { name := "fnExactPruneErrors", fn := fun _ => fun
  | [d1, d2] => { results := [.lit (.bool true)], args := [d1, d2] }
  | _ => none }
def fnExactPruneErrorsRow : OpenClaim := { program := "ytnmbmdigiaokjaa", sum := "5ee00bc167c8232d98513ee16a8465489a96407beebe1c33ba873e8269e04ad0", func := "loop.example/g01183/laws.FnExactPruneErrors", spec := "fnExactPruneErrors", unfollowed := true, recurses := true, apart := false }
def FnExactPruneErrorsSaid : Prop := fnExactPruneErrorsRow.holds Try.pinned (OpenSpec.ofChange fnExactPruneErrorsSpec)

/-- ITS FALSE NEIGHBOUR: 'it returns false'. Refute it at one input. -/
def fnExactPruneErrorsWrong : ChangeSpec := { name := "fnExactPruneErrors", fn := fun _ => fun
  | [d1, d2] => { results := [.lit (.bool false)], args := [d1, d2] }
  | _ => none }
def FnExactPruneErrorsWrongFalsely : Prop := fnExactPruneErrorsRow.holds Try.pinned (OpenSpec.ofChange fnExactPruneErrorsWrong)

/-- 'laws.FnExactCalledBy': WHATEVER THE INPUT: true; the input reads as it did. -/
def fnExactCalledBySpec : ChangeSpec := { name := "fnExactCalledBy", fn := fun _ => fun
  | [d1, d2] => { results := [.lit (.bool true)], args := [d1, d2] }
  | _ => none }
def fnExactCalledByRow : OpenClaim := { program := "ytnmbmdigiaokjaa", sum := "5ee00bc167c8232d98513ee16a8465489a96407beebe1c33ba873e8269e04ad0", func := "loop.example/g01183/laws.FnExactCalledBy", spec := "fnExactCalledBy", unfollowed := true, recurses := true, apart := false }
def FnExactCalledBySaid : Prop := fnExactCalledByRow.holds Try.pinned (OpenSpec.ofChange fnExactCalledBySpec)

/-- ITS FALSE NEIGHBOUR: 'it returns false'. Refute it at one input. -/
def fnExactCalledByWrong : ChangeSpec := { name := "fnExactCalledBy", fn := fun _ => fun
  | [d1, d2] => { results := [.lit (.bool false)], args := [d1, d2] }
  | _ => none }
def FnExactCalledByWrongFalsely : Prop := fnExactCalledByRow.holds Try.pinned (OpenSpec.ofChange fnExactCalledByWrong)

/-- 'laws.FnExactReachedFrom': WHATEVER THE INPUT: true; the input reads as it did. -/
def fnExactReachedFromSpec : ChangeSpec := { name := "fnExactReachedFrom", fn := fun _ => fun
  | [d1, d2] => { results := [.lit (.bool true)], args := [d1, d2] }
  | _ => none }
def fnExactReachedFromRow : OpenClaim := { program := "ytnmbmdigiaokjaa", sum := "5ee00bc167c8232d98513ee16a8465489a96407beebe1c33ba873e8269e04ad0", func := "loop.example/g01183/laws.FnExactReachedFrom", spec := "fnExactReachedFrom", unfollowed := true, recurses := true, apart := false }
def FnExactReachedFromSaid : Prop := fnExactReachedFromRow.holds Try.pinned (OpenSpec.ofChange fnExactReachedFromSpec)

/-- ITS FALSE NEIGHBOUR: 'it returns false'. Refute it at one input. -/
def fnExactReachedFromWrong : ChangeSpec := { name := "fnExactReachedFrom", fn := fun _ => fun
  | [d1, d2] => { results := [.lit (.bool false)], args := [d1, d2] }
  | _ => none }
def FnExactReachedFromWrongFalsely : Prop := fnExactReachedFromRow.holds Try.pinned (OpenSpec.ofChange fnExactReachedFromWrong)

/-- 'laws.FnExactGuardsOf': WHATEVER THE INPUT: true; the input reads as it did. -/
def fnExactGuardsOfSpec : ChangeSpec := { name := "fnExactGuardsOf", fn := fun _ => fun
  | [d1, d2] => { results := [.lit (.bool true)], args := [d1, d2] }
  | _ => none }
def fnExactGuardsOfRow : OpenClaim := { program := "ytnmbmdigiaokjaa", sum := "5ee00bc167c8232d98513ee16a8465489a96407beebe1c33ba873e8269e04ad0", func := "loop.example/g01183/laws.FnExactGuardsOf", spec := "fnExactGuardsOf", unfollowed := true, recurses := true, apart := false }
def FnExactGuardsOfSaid : Prop := fnExactGuardsOfRow.holds Try.pinned (OpenSpec.ofChange fnExactGuardsOfSpec)

/-- ITS FALSE NEIGHBOUR: 'it returns false'. Refute it at one input. -/
def fnExactGuardsOfWrong : ChangeSpec := { name := "fnExactGuardsOf", fn := fun _ => fun
  | [d1, d2] => { results := [.lit (.bool false)], args := [d1, d2] }
  | _ => none }
def FnExactGuardsOfWrongFalsely : Prop := fnExactGuardsOfRow.holds Try.pinned (OpenSpec.ofChange fnExactGuardsOfWrong)

/-- 'laws.FnExactIdleRecovers': WHATEVER THE INPUT: true; the input reads as it did. -/
def fnExactIdleRecoversSpec : ChangeSpec := { name := "fnExactIdleRecovers", fn := fun _ => fun
  | [d1, d2] => { results := [.lit (.bool true)], args := [d1, d2] }
  | _ => none }
def fnExactIdleRecoversRow : OpenClaim := { program := "ytnmbmdigiaokjaa", sum := "5ee00bc167c8232d98513ee16a8465489a96407beebe1c33ba873e8269e04ad0", func := "loop.example/g01183/laws.FnExactIdleRecovers", spec := "fnExactIdleRecovers", unfollowed := true, recurses := true, apart := false }
def FnExactIdleRecoversSaid : Prop := fnExactIdleRecoversRow.holds Try.pinned (OpenSpec.ofChange fnExactIdleRecoversSpec)

/-- ITS FALSE NEIGHBOUR: 'it returns false'. Refute it at one input. -/
def fnExactIdleRecoversWrong : ChangeSpec := { name := "fnExactIdleRecovers", fn := fun _ => fun
  | [d1, d2] => { results := [.lit (.bool false)], args := [d1, d2] }
  | _ => none }
def FnExactIdleRecoversWrongFalsely : Prop := fnExactIdleRecoversRow.holds Try.pinned (OpenSpec.ofChange fnExactIdleRecoversWrong)

/- THE SECOND FORM. 'bulk': how many values and letters a reading holds, each counted each time it is reached (what is shared counts as often as it is met; a slice's spare places count too). A statement '..UptoSaid' is the law's where the arguments, and the package variables that the reading takes, are together of bulk at most 1048576: NARROWER than '..Said'. Prove '..Said' where nothing that the law and all that it calls make is longer than what came in: it says more and counts as full. Else prove '..UptoSaid'. A law counts once. -/
mutual
def uptoBulk {H : Type} : DataW H → Nat
  | .lit (.string bytes) => bytes.length + 1
  | .lit _ => 1
  | .nil => 1
  | .ptr d => uptoBulk d + 1
  | .slice elems spare => uptoBulkAll elems + uptoBulkAll spare + 1
  | .agg parts => uptoBulkAll parts + 1
  | .iface _ d => uptoBulk d + 1
  | .map entries => uptoBulkEntries entries + 1
  | .held _ => 1
def uptoBulkAll {H : Type} : List (DataW H) → Nat
  | [] => 0
  | d :: r => uptoBulk d + uptoBulkAll r
def uptoBulkEntries {H : Type} : List (Lit × DataW H) → Nat
  | [] => 0
  | x :: r => uptoBulkEntry x + uptoBulkEntries r
def uptoBulkEntry {H : Type} : Lit × DataW H → Nat
  | (.string bytes, d) => bytes.length + uptoBulk d + 1
  | (_, d) => uptoBulk d + 1
 end
def uptoSmall : (H : Type) → List (DataW H) → Bool := fun _ ds => decide (uptoBulkAll ds ≤ 1048576)
def OpenSpec.upto (s : _root_.Go.ChangeSpec) : _root_.Go.OpenSpec := { _root_.Go.OpenSpec.ofChange s with cond := some uptoSmall }

/-- 'laws.FnExactServesAs', WHERE WHAT IT READS IS OF BULK AT MOST 1048576: true; the input reads as it did. -/
def fnExactServesAsUptoRow : OpenClaim := { program := "ytnmbmdigiaokjaa", sum := "5ee00bc167c8232d98513ee16a8465489a96407beebe1c33ba873e8269e04ad0", func := "loop.example/g01183/laws.FnExactServesAs", spec := "fnExactServesAs", unfollowed := true, recurses := true, apart := false, narrowed := true }
def FnExactServesAsUptoSaid : Prop := fnExactServesAsUptoRow.holds Try.pinned (OpenSpec.upto fnExactServesAsSpec)

/-- 'laws.FnExactWalkOf', WHERE WHAT IT READS IS OF BULK AT MOST 1048576: true; the input reads as it did. -/
def fnExactWalkOfUptoRow : OpenClaim := { program := "ytnmbmdigiaokjaa", sum := "5ee00bc167c8232d98513ee16a8465489a96407beebe1c33ba873e8269e04ad0", func := "loop.example/g01183/laws.FnExactWalkOf", spec := "fnExactWalkOf", unfollowed := true, recurses := true, apart := false, narrowed := true }
def FnExactWalkOfUptoSaid : Prop := fnExactWalkOfUptoRow.holds Try.pinned (OpenSpec.upto fnExactWalkOfSpec)

/-- 'laws.FnExactWrapError', WHERE WHAT IT READS IS OF BULK AT MOST 1048576: true; the input reads as it did. -/
def fnExactWrapErrorUptoRow : OpenClaim := { program := "ytnmbmdigiaokjaa", sum := "5ee00bc167c8232d98513ee16a8465489a96407beebe1c33ba873e8269e04ad0", func := "loop.example/g01183/laws.FnExactWrapError", spec := "fnExactWrapError", unfollowed := true, recurses := true, apart := false, narrowed := true }
def FnExactWrapErrorUptoSaid : Prop := fnExactWrapErrorUptoRow.holds Try.pinned (OpenSpec.upto fnExactWrapErrorSpec)

/-- 'laws.FnExactJoinErrors', WHERE WHAT IT READS IS OF BULK AT MOST 1048576: true; the input reads as it did. -/
def fnExactJoinErrorsUptoRow : OpenClaim := { program := "ytnmbmdigiaokjaa", sum := "5ee00bc167c8232d98513ee16a8465489a96407beebe1c33ba873e8269e04ad0", func := "loop.example/g01183/laws.FnExactJoinErrors", spec := "fnExactJoinErrors", unfollowed := true, recurses := true, apart := false, narrowed := true }
def FnExactJoinErrorsUptoSaid : Prop := fnExactJoinErrorsUptoRow.holds Try.pinned (OpenSpec.upto fnExactJoinErrorsSpec)

/-- 'laws.FnExactLeavesOf', WHERE WHAT IT READS IS OF BULK AT MOST 1048576: true; the input reads as it did. -/
def fnExactLeavesOfUptoRow : OpenClaim := { program := "ytnmbmdigiaokjaa", sum := "5ee00bc167c8232d98513ee16a8465489a96407beebe1c33ba873e8269e04ad0", func := "loop.example/g01183/laws.FnExactLeavesOf", spec := "fnExactLeavesOf", unfollowed := true, recurses := true, apart := false, narrowed := true }
def FnExactLeavesOfUptoSaid : Prop := fnExactLeavesOfUptoRow.holds Try.pinned (OpenSpec.upto fnExactLeavesOfSpec)

/-- 'laws.FnExactPruneErrors', WHERE WHAT IT READS IS OF BULK AT MOST 1048576: true; the input reads as it did. -/
def fnExactPruneErrorsUptoRow : OpenClaim := { program := "ytnmbmdigiaokjaa", sum := "5ee00bc167c8232d98513ee16a8465489a96407beebe1c33ba873e8269e04ad0", func := "loop.example/g01183/laws.FnExactPruneErrors", spec := "fnExactPruneErrors", unfollowed := true, recurses := true, apart := false, narrowed := true }
def FnExactPruneErrorsUptoSaid : Prop := fnExactPruneErrorsUptoRow.holds Try.pinned (OpenSpec.upto fnExactPruneErrorsSpec)

/-- 'laws.FnExactCalledBy', WHERE WHAT IT READS IS OF BULK AT MOST 1048576: true; the input reads as it did. -/
def fnExactCalledByUptoRow : OpenClaim := { program := "ytnmbmdigiaokjaa", sum := "5ee00bc167c8232d98513ee16a8465489a96407beebe1c33ba873e8269e04ad0", func := "loop.example/g01183/laws.FnExactCalledBy", spec := "fnExactCalledBy", unfollowed := true, recurses := true, apart := false, narrowed := true }
def FnExactCalledByUptoSaid : Prop := fnExactCalledByUptoRow.holds Try.pinned (OpenSpec.upto fnExactCalledBySpec)

/-- 'laws.FnExactReachedFrom', WHERE WHAT IT READS IS OF BULK AT MOST 1048576: true; the input reads as it did. -/
def fnExactReachedFromUptoRow : OpenClaim := { program := "ytnmbmdigiaokjaa", sum := "5ee00bc167c8232d98513ee16a8465489a96407beebe1c33ba873e8269e04ad0", func := "loop.example/g01183/laws.FnExactReachedFrom", spec := "fnExactReachedFrom", unfollowed := true, recurses := true, apart := false, narrowed := true }
def FnExactReachedFromUptoSaid : Prop := fnExactReachedFromUptoRow.holds Try.pinned (OpenSpec.upto fnExactReachedFromSpec)

/-- 'laws.FnExactGuardsOf', WHERE WHAT IT READS IS OF BULK AT MOST 1048576: true; the input reads as it did. -/
def fnExactGuardsOfUptoRow : OpenClaim := { program := "ytnmbmdigiaokjaa", sum := "5ee00bc167c8232d98513ee16a8465489a96407beebe1c33ba873e8269e04ad0", func := "loop.example/g01183/laws.FnExactGuardsOf", spec := "fnExactGuardsOf", unfollowed := true, recurses := true, apart := false, narrowed := true }
def FnExactGuardsOfUptoSaid : Prop := fnExactGuardsOfUptoRow.holds Try.pinned (OpenSpec.upto fnExactGuardsOfSpec)

/-- 'laws.FnExactIdleRecovers', WHERE WHAT IT READS IS OF BULK AT MOST 1048576: true; the input reads as it did. -/
def fnExactIdleRecoversUptoRow : OpenClaim := { program := "ytnmbmdigiaokjaa", sum := "5ee00bc167c8232d98513ee16a8465489a96407beebe1c33ba873e8269e04ad0", func := "loop.example/g01183/laws.FnExactIdleRecovers", spec := "fnExactIdleRecovers", unfollowed := true, recurses := true, apart := false, narrowed := true }
def FnExactIdleRecoversUptoSaid : Prop := fnExactIdleRecoversUptoRow.holds Try.pinned (OpenSpec.upto fnExactIdleRecoversSpec)

end Rows
end Go.Proofs.Ytnmbmdigiaokjaa
