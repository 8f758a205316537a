/-
  No cell of these rows narrows 'for every input' (looked for: loops, veiled, ifaces, maps, wideKeys, modest, calm, conditions, laid).
  DERIVED. THE GIVEN ROWS OF THIS SEAT. 12 by the template 'for every input the law returns true; each argument reads behind the call as it read before'; 0 by the template 'total and deterministic' (their statements: YthnaoedlnificaaTotals.lean).
  GIVEN WITH THE SEED: the statements are not yours to turn. If you find one false, say at which input.
  Laid BY PROGRAM, IN A SANDBOX (cutbox-rows.mjs): the forced cells as the released guide's own fill.sh prints them over the translation aaea4a38ac06d9b2… (all of the seat's roots in one cut). By AI agents, Wed Nov 11 2026. No macro, syntax, notation, axiom, sorry.
-/
import Derived.Test.YthnaoedlnificaaChecked
import GoSem.Claim
import GoSem.ClaimJoined
import GoSem.ClaimMapViews
import Derived.JoinedTies
import Derived.KernelRfl
namespace Go.Proofs.Ythnaoedlnificaa
/- THE CELL 'sum', in the pinned program and in every row, IS THE sha256 OF THE DUMP (.gsa) THAT YthnaoedlnificaaProg.lean LOADS. Nothing in Lean hashes anything: it is a label: what it is worth is what the hold of that sum in a sandbox is worth. -/
noncomputable def Try.pinned : Pinned := { name := "ythnaoedlnificaa", sum := "aaea4a38ac06d9b2afceb35b6b75d28effe01d53504a302ceed66e6653b8a233", checked := Try.checked }
namespace Rows
def none {H : Type} : Left H := { results := [], args := [] }

/-- 'laws.FnExactRunProgram': WHATEVER THE INPUT: true; the input reads as it did. -/
def fnExactRunProgramSpec : ChangeSpec := { name := "fnExactRunProgram", fn := fun _ => fun
  | [d1, d2, d3, d4] => { results := [.lit (.bool true)], args := [d1, d2, d3, d4] }
  | _ => none }
def fnExactRunProgramRow : OpenClaim := { program := "ythnaoedlnificaa", sum := "aaea4a38ac06d9b2afceb35b6b75d28effe01d53504a302ceed66e6653b8a233", func := "loop.example/g01183/laws.FnExactRunProgram", spec := "fnExactRunProgram", unfollowed := true, recurses := true, plainKeys := false, apart := false }
def FnExactRunProgramSaid : Prop := fnExactRunProgramRow.holds Try.pinned (OpenSpec.ofChange fnExactRunProgramSpec)

/-- ITS FALSE NEIGHBOUR: 'it returns false'. Refute it at one input. -/
def fnExactRunProgramWrong : ChangeSpec := { name := "fnExactRunProgram", fn := fun _ => fun
  | [d1, d2, d3, d4] => { results := [.lit (.bool false)], args := [d1, d2, d3, d4] }
  | _ => none }
def FnExactRunProgramWrongFalsely : Prop := fnExactRunProgramRow.holds Try.pinned (OpenSpec.ofChange fnExactRunProgramWrong)

/-- 'laws.FnExactDeepestCall': WHATEVER THE INPUT: true; the input reads as it did. -/
def fnExactDeepestCallSpec : ChangeSpec := { name := "fnExactDeepestCall", fn := fun _ => fun
  | [d1, d2, d3, d4] => { results := [.lit (.bool true)], args := [d1, d2, d3, d4] }
  | _ => none }
def fnExactDeepestCallRow : OpenClaim := { program := "ythnaoedlnificaa", sum := "aaea4a38ac06d9b2afceb35b6b75d28effe01d53504a302ceed66e6653b8a233", func := "loop.example/g01183/laws.FnExactDeepestCall", spec := "fnExactDeepestCall", unfollowed := true, recurses := true, plainKeys := false, apart := false }
def FnExactDeepestCallSaid : Prop := fnExactDeepestCallRow.holds Try.pinned (OpenSpec.ofChange fnExactDeepestCallSpec)

/-- ITS FALSE NEIGHBOUR: 'it returns false'. Refute it at one input. -/
def fnExactDeepestCallWrong : ChangeSpec := { name := "fnExactDeepestCall", fn := fun _ => fun
  | [d1, d2, d3, d4] => { results := [.lit (.bool false)], args := [d1, d2, d3, d4] }
  | _ => none }
def FnExactDeepestCallWrongFalsely : Prop := fnExactDeepestCallRow.holds Try.pinned (OpenSpec.ofChange fnExactDeepestCallWrong)

/-- 'laws.FnExactFuelOf': WHATEVER THE INPUT: true; the input reads as it did. -/
def fnExactFuelOfSpec : ChangeSpec := { name := "fnExactFuelOf", fn := fun _ => fun
  | [d1, d2, d3] => { results := [.lit (.bool true)], args := [d1, d2, d3] }
  | _ => none }
def fnExactFuelOfRow : OpenClaim := { program := "ythnaoedlnificaa", sum := "aaea4a38ac06d9b2afceb35b6b75d28effe01d53504a302ceed66e6653b8a233", func := "loop.example/g01183/laws.FnExactFuelOf", spec := "fnExactFuelOf", unfollowed := true, recurses := true, plainKeys := false, apart := false }
def FnExactFuelOfSaid : Prop := fnExactFuelOfRow.holds Try.pinned (OpenSpec.ofChange fnExactFuelOfSpec)

/-- ITS FALSE NEIGHBOUR: 'it returns false'. Refute it at one input. -/
def fnExactFuelOfWrong : ChangeSpec := { name := "fnExactFuelOf", fn := fun _ => fun
  | [d1, d2, d3] => { results := [.lit (.bool false)], args := [d1, d2, d3] }
  | _ => none }
def FnExactFuelOfWrongFalsely : Prop := fnExactFuelOfRow.holds Try.pinned (OpenSpec.ofChange fnExactFuelOfWrong)

/-- 'laws.FnExactCountEnds': WHATEVER THE INPUT: true; the input reads as it did. -/
def fnExactCountEndsSpec : ChangeSpec := { name := "fnExactCountEnds", fn := fun _ => fun
  | [d1, d2, d3, d4] => { results := [.lit (.bool true)], args := [d1, d2, d3, d4] }
  | _ => none }
def fnExactCountEndsRow : OpenClaim := { program := "ythnaoedlnificaa", sum := "aaea4a38ac06d9b2afceb35b6b75d28effe01d53504a302ceed66e6653b8a233", func := "loop.example/g01183/laws.FnExactCountEnds", spec := "fnExactCountEnds", unfollowed := true, recurses := true, plainKeys := false, apart := false }
def FnExactCountEndsSaid : Prop := fnExactCountEndsRow.holds Try.pinned (OpenSpec.ofChange fnExactCountEndsSpec)

/-- ITS FALSE NEIGHBOUR: 'it returns false'. Refute it at one input. -/
def fnExactCountEndsWrong : ChangeSpec := { name := "fnExactCountEnds", fn := fun _ => fun
  | [d1, d2, d3, d4] => { results := [.lit (.bool false)], args := [d1, d2, d3, d4] }
  | _ => none }
def FnExactCountEndsWrongFalsely : Prop := fnExactCountEndsRow.holds Try.pinned (OpenSpec.ofChange fnExactCountEndsWrong)

/-- 'laws.FnExactSaidNumbers': WHATEVER THE INPUT: true; the input reads as it did. -/
def fnExactSaidNumbersSpec : ChangeSpec := { name := "fnExactSaidNumbers", fn := fun _ => fun
  | [d1, d2, d3, d4] => { results := [.lit (.bool true)], args := [d1, d2, d3, d4] }
  | _ => none }
def fnExactSaidNumbersRow : OpenClaim := { program := "ythnaoedlnificaa", sum := "aaea4a38ac06d9b2afceb35b6b75d28effe01d53504a302ceed66e6653b8a233", func := "loop.example/g01183/laws.FnExactSaidNumbers", spec := "fnExactSaidNumbers", unfollowed := true, recurses := true, plainKeys := false, apart := false }
def FnExactSaidNumbersSaid : Prop := fnExactSaidNumbersRow.holds Try.pinned (OpenSpec.ofChange fnExactSaidNumbersSpec)

/-- ITS FALSE NEIGHBOUR: 'it returns false'. Refute it at one input. -/
def fnExactSaidNumbersWrong : ChangeSpec := { name := "fnExactSaidNumbers", fn := fun _ => fun
  | [d1, d2, d3, d4] => { results := [.lit (.bool false)], args := [d1, d2, d3, d4] }
  | _ => none }
def FnExactSaidNumbersWrongFalsely : Prop := fnExactSaidNumbersRow.holds Try.pinned (OpenSpec.ofChange fnExactSaidNumbersWrong)

/-- 'laws.FnExactOwnersOf': WHATEVER THE INPUT: true; the input reads as it did. -/
def fnExactOwnersOfSpec : ChangeSpec := { name := "fnExactOwnersOf", fn := fun _ => fun
  | [d1, d2, d3, d4] => { results := [.lit (.bool true)], args := [d1, d2, d3, d4] }
  | _ => none }
def fnExactOwnersOfRow : OpenClaim := { program := "ythnaoedlnificaa", sum := "aaea4a38ac06d9b2afceb35b6b75d28effe01d53504a302ceed66e6653b8a233", func := "loop.example/g01183/laws.FnExactOwnersOf", spec := "fnExactOwnersOf", unfollowed := true, recurses := true, plainKeys := false, apart := false }
def FnExactOwnersOfSaid : Prop := fnExactOwnersOfRow.holds Try.pinned (OpenSpec.ofChange fnExactOwnersOfSpec)

/-- ITS FALSE NEIGHBOUR: 'it returns false'. Refute it at one input. -/
def fnExactOwnersOfWrong : ChangeSpec := { name := "fnExactOwnersOf", fn := fun _ => fun
  | [d1, d2, d3, d4] => { results := [.lit (.bool false)], args := [d1, d2, d3, d4] }
  | _ => none }
def FnExactOwnersOfWrongFalsely : Prop := fnExactOwnersOfRow.holds Try.pinned (OpenSpec.ofChange fnExactOwnersOfWrong)

/-- 'laws.FnExactResultsOf': WHATEVER THE INPUT: true; the input reads as it did. -/
def fnExactResultsOfSpec : ChangeSpec := { name := "fnExactResultsOf", fn := fun _ => fun
  | [d1, d2, d3, d4] => { results := [.lit (.bool true)], args := [d1, d2, d3, d4] }
  | _ => none }
def fnExactResultsOfRow : OpenClaim := { program := "ythnaoedlnificaa", sum := "aaea4a38ac06d9b2afceb35b6b75d28effe01d53504a302ceed66e6653b8a233", func := "loop.example/g01183/laws.FnExactResultsOf", spec := "fnExactResultsOf", unfollowed := true, recurses := true, plainKeys := false, apart := false }
def FnExactResultsOfSaid : Prop := fnExactResultsOfRow.holds Try.pinned (OpenSpec.ofChange fnExactResultsOfSpec)

/-- ITS FALSE NEIGHBOUR: 'it returns false'. Refute it at one input. -/
def fnExactResultsOfWrong : ChangeSpec := { name := "fnExactResultsOf", fn := fun _ => fun
  | [d1, d2, d3, d4] => { results := [.lit (.bool false)], args := [d1, d2, d3, d4] }
  | _ => none }
def FnExactResultsOfWrongFalsely : Prop := fnExactResultsOfRow.holds Try.pinned (OpenSpec.ofChange fnExactResultsOfWrong)

/-- 'laws.FnExactDepthsOf': WHATEVER THE INPUT: true; the input reads as it did. -/
def fnExactDepthsOfSpec : ChangeSpec := { name := "fnExactDepthsOf", fn := fun _ => fun
  | [d1, d2, d3, d4] => { results := [.lit (.bool true)], args := [d1, d2, d3, d4] }
  | _ => none }
def fnExactDepthsOfRow : OpenClaim := { program := "ythnaoedlnificaa", sum := "aaea4a38ac06d9b2afceb35b6b75d28effe01d53504a302ceed66e6653b8a233", func := "loop.example/g01183/laws.FnExactDepthsOf", spec := "fnExactDepthsOf", unfollowed := true, recurses := true, plainKeys := false, apart := false }
def FnExactDepthsOfSaid : Prop := fnExactDepthsOfRow.holds Try.pinned (OpenSpec.ofChange fnExactDepthsOfSpec)

/-- ITS FALSE NEIGHBOUR: 'it returns false'. Refute it at one input. -/
def fnExactDepthsOfWrong : ChangeSpec := { name := "fnExactDepthsOf", fn := fun _ => fun
  | [d1, d2, d3, d4] => { results := [.lit (.bool false)], args := [d1, d2, d3, d4] }
  | _ => none }
def FnExactDepthsOfWrongFalsely : Prop := fnExactDepthsOfRow.holds Try.pinned (OpenSpec.ofChange fnExactDepthsOfWrong)

/-- 'laws.FnExactCallTree': WHATEVER THE INPUT: true; the input reads as it did. -/
def fnExactCallTreeSpec : ChangeSpec := { name := "fnExactCallTree", fn := fun _ => fun
  | [d1, d2, d3, d4] => { results := [.lit (.bool true)], args := [d1, d2, d3, d4] }
  | _ => none }
def fnExactCallTreeRow : OpenClaim := { program := "ythnaoedlnificaa", sum := "aaea4a38ac06d9b2afceb35b6b75d28effe01d53504a302ceed66e6653b8a233", func := "loop.example/g01183/laws.FnExactCallTree", spec := "fnExactCallTree", unfollowed := true, recurses := true, plainKeys := false, apart := false }
def FnExactCallTreeSaid : Prop := fnExactCallTreeRow.holds Try.pinned (OpenSpec.ofChange fnExactCallTreeSpec)

/-- ITS FALSE NEIGHBOUR: 'it returns false'. Refute it at one input. -/
def fnExactCallTreeWrong : ChangeSpec := { name := "fnExactCallTree", fn := fun _ => fun
  | [d1, d2, d3, d4] => { results := [.lit (.bool false)], args := [d1, d2, d3, d4] }
  | _ => none }
def FnExactCallTreeWrongFalsely : Prop := fnExactCallTreeRow.holds Try.pinned (OpenSpec.ofChange fnExactCallTreeWrong)

/-- 'laws.FnExactDeferredBy': WHATEVER THE INPUT: true; the input reads as it did. -/
def fnExactDeferredBySpec : ChangeSpec := { name := "fnExactDeferredBy", fn := fun _ => fun
  | [d1, d2, d3, d4, d5] => { results := [.lit (.bool true)], args := [d1, d2, d3, d4, d5] }
  | _ => none }
def fnExactDeferredByRow : OpenClaim := { program := "ythnaoedlnificaa", sum := "aaea4a38ac06d9b2afceb35b6b75d28effe01d53504a302ceed66e6653b8a233", func := "loop.example/g01183/laws.FnExactDeferredBy", spec := "fnExactDeferredBy", unfollowed := true, recurses := true, plainKeys := false, apart := false }
def FnExactDeferredBySaid : Prop := fnExactDeferredByRow.holds Try.pinned (OpenSpec.ofChange fnExactDeferredBySpec)

/-- ITS FALSE NEIGHBOUR: 'it returns false'. Refute it at one input. -/
def fnExactDeferredByWrong : ChangeSpec := { name := "fnExactDeferredBy", fn := fun _ => fun
  | [d1, d2, d3, d4, d5] => { results := [.lit (.bool false)], args := [d1, d2, d3, d4, d5] }
  | _ => none }
def FnExactDeferredByWrongFalsely : Prop := fnExactDeferredByRow.holds Try.pinned (OpenSpec.ofChange fnExactDeferredByWrong)

/-- 'laws.FnExactRunBy': WHATEVER THE INPUT: true; the input reads as it did. -/
def fnExactRunBySpec : ChangeSpec := { name := "fnExactRunBy", fn := fun _ => fun
  | [d1, d2, d3, d4, d5] => { results := [.lit (.bool true)], args := [d1, d2, d3, d4, d5] }
  | _ => none }
def fnExactRunByRow : OpenClaim := { program := "ythnaoedlnificaa", sum := "aaea4a38ac06d9b2afceb35b6b75d28effe01d53504a302ceed66e6653b8a233", func := "loop.example/g01183/laws.FnExactRunBy", spec := "fnExactRunBy", unfollowed := true, recurses := true, plainKeys := false, apart := false }
def FnExactRunBySaid : Prop := fnExactRunByRow.holds Try.pinned (OpenSpec.ofChange fnExactRunBySpec)

/-- ITS FALSE NEIGHBOUR: 'it returns false'. Refute it at one input. -/
def fnExactRunByWrong : ChangeSpec := { name := "fnExactRunBy", fn := fun _ => fun
  | [d1, d2, d3, d4, d5] => { results := [.lit (.bool false)], args := [d1, d2, d3, d4, d5] }
  | _ => none }
def FnExactRunByWrongFalsely : Prop := fnExactRunByRow.holds Try.pinned (OpenSpec.ofChange fnExactRunByWrong)

/-- 'laws.FnExactSavedCalls': WHATEVER THE INPUT: true; the input reads as it did. -/
def fnExactSavedCallsSpec : ChangeSpec := { name := "fnExactSavedCalls", fn := fun _ => fun
  | [d1, d2, d3, d4] => { results := [.lit (.bool true)], args := [d1, d2, d3, d4] }
  | _ => none }
def fnExactSavedCallsRow : OpenClaim := { program := "ythnaoedlnificaa", sum := "aaea4a38ac06d9b2afceb35b6b75d28effe01d53504a302ceed66e6653b8a233", func := "loop.example/g01183/laws.FnExactSavedCalls", spec := "fnExactSavedCalls", unfollowed := true, recurses := true, plainKeys := false, apart := false }
def FnExactSavedCallsSaid : Prop := fnExactSavedCallsRow.holds Try.pinned (OpenSpec.ofChange fnExactSavedCallsSpec)

/-- ITS FALSE NEIGHBOUR: 'it returns false'. Refute it at one input. -/
def fnExactSavedCallsWrong : ChangeSpec := { name := "fnExactSavedCalls", fn := fun _ => fun
  | [d1, d2, d3, d4] => { results := [.lit (.bool false)], args := [d1, d2, d3, d4] }
  | _ => none }
def FnExactSavedCallsWrongFalsely : Prop := fnExactSavedCallsRow.holds Try.pinned (OpenSpec.ofChange fnExactSavedCallsWrong)

/- THE SECOND FORM. 'bulk': how many values and letters a reading holds, each counted each time it is reached (what is shared counts as often as it is met; a slice's spare places count too). A statement '..UptoSaid' is the law's where the arguments, and the package variables that the reading takes, are together of bulk at most 1048576: NARROWER than '..Said'. Prove '..Said' where nothing that the law and all that it calls make is longer than what came in: it says more and counts as full. Else prove '..UptoSaid'. A law counts once. -/
mutual
def uptoBulk {H : Type} : DataW H → Nat
  | .lit (.string bytes) => bytes.length + 1
  | .lit _ => 1
  | .nil => 1
  | .ptr d => uptoBulk d + 1
  | .slice elems spare => uptoBulkAll elems + uptoBulkAll spare + 1
  | .agg parts => uptoBulkAll parts + 1
  | .iface _ d => uptoBulk d + 1
  | .map entries => uptoBulkEntries entries + 1
  | .held _ => 1
def uptoBulkAll {H : Type} : List (DataW H) → Nat
  | [] => 0
  | d :: r => uptoBulk d + uptoBulkAll r
def uptoBulkEntries {H : Type} : List (Lit × DataW H) → Nat
  | [] => 0
  | x :: r => uptoBulkEntry x + uptoBulkEntries r
def uptoBulkEntry {H : Type} : Lit × DataW H → Nat
  | (.string bytes, d) => bytes.length + uptoBulk d + 1
  | (_, d) => uptoBulk d + 1
 end
def uptoSmall : (H : Type) → List (DataW H) → Bool := fun _ ds => decide (uptoBulkAll ds ≤ 1048576)
def OpenSpec.upto (s : _root_.Go.ChangeSpec) : _root_.Go.OpenSpec := { _root_.Go.OpenSpec.ofChange s with cond := some uptoSmall }

/-- 'laws.FnExactRunProgram', WHERE WHAT IT READS IS OF BULK AT MOST 1048576: true; the input reads as it did. -/
def fnExactRunProgramUptoRow : OpenClaim := { program := "ythnaoedlnificaa", sum := "aaea4a38ac06d9b2afceb35b6b75d28effe01d53504a302ceed66e6653b8a233", func := "loop.example/g01183/laws.FnExactRunProgram", spec := "fnExactRunProgram", unfollowed := true, recurses := true, plainKeys := false, apart := false, narrowed := true }
def FnExactRunProgramUptoSaid : Prop := fnExactRunProgramUptoRow.holds Try.pinned (OpenSpec.upto fnExactRunProgramSpec)

/-- 'laws.FnExactDeepestCall', WHERE WHAT IT READS IS OF BULK AT MOST 1048576: true; the input reads as it did. -/
def fnExactDeepestCallUptoRow : OpenClaim := { program := "ythnaoedlnificaa", sum := "aaea4a38ac06d9b2afceb35b6b75d28effe01d53504a302ceed66e6653b8a233", func := "loop.example/g01183/laws.FnExactDeepestCall", spec := "fnExactDeepestCall", unfollowed := true, recurses := true, plainKeys := false, apart := false, narrowed := true }
def FnExactDeepestCallUptoSaid : Prop := fnExactDeepestCallUptoRow.holds Try.pinned (OpenSpec.upto fnExactDeepestCallSpec)

/-- 'laws.FnExactFuelOf', WHERE WHAT IT READS IS OF BULK AT MOST 1048576: true; the input reads as it did. -/
def fnExactFuelOfUptoRow : OpenClaim := { program := "ythnaoedlnificaa", sum := "aaea4a38ac06d9b2afceb35b6b75d28effe01d53504a302ceed66e6653b8a233", func := "loop.example/g01183/laws.FnExactFuelOf", spec := "fnExactFuelOf", unfollowed := true, recurses := true, plainKeys := false, apart := false, narrowed := true }
def FnExactFuelOfUptoSaid : Prop := fnExactFuelOfUptoRow.holds Try.pinned (OpenSpec.upto fnExactFuelOfSpec)

/-- 'laws.FnExactCountEnds', WHERE WHAT IT READS IS OF BULK AT MOST 1048576: true; the input reads as it did. -/
def fnExactCountEndsUptoRow : OpenClaim := { program := "ythnaoedlnificaa", sum := "aaea4a38ac06d9b2afceb35b6b75d28effe01d53504a302ceed66e6653b8a233", func := "loop.example/g01183/laws.FnExactCountEnds", spec := "fnExactCountEnds", unfollowed := true, recurses := true, plainKeys := false, apart := false, narrowed := true }
def FnExactCountEndsUptoSaid : Prop := fnExactCountEndsUptoRow.holds Try.pinned (OpenSpec.upto fnExactCountEndsSpec)

/-- 'laws.FnExactSaidNumbers', WHERE WHAT IT READS IS OF BULK AT MOST 1048576: true; the input reads as it did. -/
def fnExactSaidNumbersUptoRow : OpenClaim := { program := "ythnaoedlnificaa", sum := "aaea4a38ac06d9b2afceb35b6b75d28effe01d53504a302ceed66e6653b8a233", func := "loop.example/g01183/laws.FnExactSaidNumbers", spec := "fnExactSaidNumbers", unfollowed := true, recurses := true, plainKeys := false, apart := false, narrowed := true }
def FnExactSaidNumbersUptoSaid : Prop := fnExactSaidNumbersUptoRow.holds Try.pinned (OpenSpec.upto fnExactSaidNumbersSpec)

/-- 'laws.FnExactOwnersOf', WHERE WHAT IT READS IS OF BULK AT MOST 1048576: true; the input reads as it did. -/
def fnExactOwnersOfUptoRow : OpenClaim := { program := "ythnaoedlnificaa", sum := "aaea4a38ac06d9b2afceb35b6b75d28effe01d53504a302ceed66e6653b8a233", func := "loop.example/g01183/laws.FnExactOwnersOf", spec := "fnExactOwnersOf", unfollowed := true, recurses := true, plainKeys := false, apart := false, narrowed := true }
def FnExactOwnersOfUptoSaid : Prop := fnExactOwnersOfUptoRow.holds Try.pinned (OpenSpec.upto fnExactOwnersOfSpec)

/-- 'laws.FnExactResultsOf', WHERE WHAT IT READS IS OF BULK AT MOST 1048576: true; the input reads as it did. -/
def fnExactResultsOfUptoRow : OpenClaim := { program := "ythnaoedlnificaa", sum := "aaea4a38ac06d9b2afceb35b6b75d28effe01d53504a302ceed66e6653b8a233", func := "loop.example/g01183/laws.FnExactResultsOf", spec := "fnExactResultsOf", unfollowed := true, recurses := true, plainKeys := false, apart := false, narrowed := true }
def FnExactResultsOfUptoSaid : Prop := fnExactResultsOfUptoRow.holds Try.pinned (OpenSpec.upto fnExactResultsOfSpec)

/-- 'laws.FnExactDepthsOf', WHERE WHAT IT READS IS OF BULK AT MOST 1048576: true; the input reads as it did. -/
def fnExactDepthsOfUptoRow : OpenClaim := { program := "ythnaoedlnificaa", sum := "aaea4a38ac06d9b2afceb35b6b75d28effe01d53504a302ceed66e6653b8a233", func := "loop.example/g01183/laws.FnExactDepthsOf", spec := "fnExactDepthsOf", unfollowed := true, recurses := true, plainKeys := false, apart := false, narrowed := true }
def FnExactDepthsOfUptoSaid : Prop := fnExactDepthsOfUptoRow.holds Try.pinned (OpenSpec.upto fnExactDepthsOfSpec)

/-- 'laws.FnExactCallTree', WHERE WHAT IT READS IS OF BULK AT MOST 1048576: true; the input reads as it did. -/
def fnExactCallTreeUptoRow : OpenClaim := { program := "ythnaoedlnificaa", sum := "aaea4a38ac06d9b2afceb35b6b75d28effe01d53504a302ceed66e6653b8a233", func := "loop.example/g01183/laws.FnExactCallTree", spec := "fnExactCallTree", unfollowed := true, recurses := true, plainKeys := false, apart := false, narrowed := true }
def FnExactCallTreeUptoSaid : Prop := fnExactCallTreeUptoRow.holds Try.pinned (OpenSpec.upto fnExactCallTreeSpec)

/-- 'laws.FnExactDeferredBy', WHERE WHAT IT READS IS OF BULK AT MOST 1048576: true; the input reads as it did. -/
def fnExactDeferredByUptoRow : OpenClaim := { program := "ythnaoedlnificaa", sum := "aaea4a38ac06d9b2afceb35b6b75d28effe01d53504a302ceed66e6653b8a233", func := "loop.example/g01183/laws.FnExactDeferredBy", spec := "fnExactDeferredBy", unfollowed := true, recurses := true, plainKeys := false, apart := false, narrowed := true }
def FnExactDeferredByUptoSaid : Prop := fnExactDeferredByUptoRow.holds Try.pinned (OpenSpec.upto fnExactDeferredBySpec)

/-- 'laws.FnExactRunBy', WHERE WHAT IT READS IS OF BULK AT MOST 1048576: true; the input reads as it did. -/
def fnExactRunByUptoRow : OpenClaim := { program := "ythnaoedlnificaa", sum := "aaea4a38ac06d9b2afceb35b6b75d28effe01d53504a302ceed66e6653b8a233", func := "loop.example/g01183/laws.FnExactRunBy", spec := "fnExactRunBy", unfollowed := true, recurses := true, plainKeys := false, apart := false, narrowed := true }
def FnExactRunByUptoSaid : Prop := fnExactRunByUptoRow.holds Try.pinned (OpenSpec.upto fnExactRunBySpec)

/-- 'laws.FnExactSavedCalls', WHERE WHAT IT READS IS OF BULK AT MOST 1048576: true; the input reads as it did. -/
def fnExactSavedCallsUptoRow : OpenClaim := { program := "ythnaoedlnificaa", sum := "aaea4a38ac06d9b2afceb35b6b75d28effe01d53504a302ceed66e6653b8a233", func := "loop.example/g01183/laws.FnExactSavedCalls", spec := "fnExactSavedCalls", unfollowed := true, recurses := true, plainKeys := false, apart := false, narrowed := true }
def FnExactSavedCallsUptoSaid : Prop := fnExactSavedCallsUptoRow.holds Try.pinned (OpenSpec.upto fnExactSavedCallsSpec)

end Rows
end Go.Proofs.Ythnaoedlnificaa
