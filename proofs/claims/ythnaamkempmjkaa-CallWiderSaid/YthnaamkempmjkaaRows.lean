/-
  No cell of these rows narrows 'for every input' (looked for: loops, veiled, ifaces, maps, wideKeys, modest, calm, conditions, laid).
  DERIVED. THE GIVEN ROWS OF THIS SEAT. 15 by the template 'for every input the law returns true; each argument reads behind the call as it read before'; 0 by the template 'total and deterministic' (their statements: YthnaamkempmjkaaTotals.lean).
  GIVEN WITH THE SEED: the statements are not yours to turn. If you find one false, say at which input.
  Laid BY PROGRAM, IN A SANDBOX (cutbox-rows.mjs): the forced cells as the released guide's own fill.sh prints them over the translation b7c958e501aa7084… (all of the seat's roots in one cut). By AI agents, Wed Nov 11 2026. No macro, syntax, notation, axiom, sorry.
-/
import Derived.Test.YthnaamkempmjkaaChecked
import GoSem.Claim
import GoSem.ClaimJoined
import GoSem.ClaimMapViews
import Derived.JoinedTies
import Derived.KernelRfl
namespace Go.Proofs.Ythnaamkempmjkaa
/- THE CELL 'sum', in the pinned program and in every row, IS THE sha256 OF THE DUMP (.gsa) THAT YthnaamkempmjkaaProg.lean LOADS. Nothing in Lean hashes anything: it is a label: what it is worth is what the hold of that sum in a sandbox is worth. -/
noncomputable def Try.pinned : Pinned := { name := "ythnaamkempmjkaa", sum := "b7c958e501aa7084fd6d1f07792e740d837067f9f844ade442a5a0c8d203fc8d", checked := Try.checked }
namespace Rows
def none {H : Type} : Left H := { results := [], args := [] }

/-- 'hailstonelaw09.CallRates': WHATEVER THE INPUT: true; the input reads as it did. -/
def callRatesSpec : ChangeSpec := { name := "callRates", fn := fun _ => fun
  | [d] => { results := [.lit (.bool true)], args := [d] }
  | _ => none }
def callRatesRow : OpenClaim := { program := "ythnaamkempmjkaa", sum := "b7c958e501aa7084fd6d1f07792e740d837067f9f844ade442a5a0c8d203fc8d", func := "hailstone/hailstonelaw09.CallRates", spec := "callRates", unfollowed := true, recurses := true, plainKeys := false, apart := false }
def CallRatesSaid : Prop := callRatesRow.holds Try.pinned (OpenSpec.ofChange callRatesSpec)

/-- ITS FALSE NEIGHBOUR: 'it returns false'. Refute it at one input. -/
def callRatesWrong : ChangeSpec := { name := "callRates", fn := fun _ => fun
  | [d] => { results := [.lit (.bool false)], args := [d] }
  | _ => none }
def CallRatesWrongFalsely : Prop := callRatesRow.holds Try.pinned (OpenSpec.ofChange callRatesWrong)

/-- 'hailstonelaw09.CallEnds': WHATEVER THE INPUT: true; the input reads as it did. -/
def callEndsSpec : ChangeSpec := { name := "callEnds", fn := fun _ => fun
  | [d1, d2] => { results := [.lit (.bool true)], args := [d1, d2] }
  | _ => none }
def callEndsRow : OpenClaim := { program := "ythnaamkempmjkaa", sum := "b7c958e501aa7084fd6d1f07792e740d837067f9f844ade442a5a0c8d203fc8d", func := "hailstone/hailstonelaw09.CallEnds", spec := "callEnds", unfollowed := true, recurses := true, plainKeys := false, apart := false }
def CallEndsSaid : Prop := callEndsRow.holds Try.pinned (OpenSpec.ofChange callEndsSpec)

/-- ITS FALSE NEIGHBOUR: 'it returns false'. Refute it at one input. -/
def callEndsWrong : ChangeSpec := { name := "callEnds", fn := fun _ => fun
  | [d1, d2] => { results := [.lit (.bool false)], args := [d1, d2] }
  | _ => none }
def CallEndsWrongFalsely : Prop := callEndsRow.holds Try.pinned (OpenSpec.ofChange callEndsWrong)

/-- 'hailstonelaw09.CallEqual': WHATEVER THE INPUT: true; the input reads as it did. -/
def callEqualSpec : ChangeSpec := { name := "callEqual", fn := fun _ => fun
  | [d1, d2, d3, d4] => { results := [.lit (.bool true)], args := [d1, d2, d3, d4] }
  | _ => none }
def callEqualRow : OpenClaim := { program := "ythnaamkempmjkaa", sum := "b7c958e501aa7084fd6d1f07792e740d837067f9f844ade442a5a0c8d203fc8d", func := "hailstone/hailstonelaw09.CallEqual", spec := "callEqual", unfollowed := true, recurses := true, plainKeys := false, apart := false }
def CallEqualSaid : Prop := callEqualRow.holds Try.pinned (OpenSpec.ofChange callEqualSpec)

/-- ITS FALSE NEIGHBOUR: 'it returns false'. Refute it at one input. -/
def callEqualWrong : ChangeSpec := { name := "callEqual", fn := fun _ => fun
  | [d1, d2, d3, d4] => { results := [.lit (.bool false)], args := [d1, d2, d3, d4] }
  | _ => none }
def CallEqualWrongFalsely : Prop := callEqualRow.holds Try.pinned (OpenSpec.ofChange callEqualWrong)

/-- 'hailstonelaw09.CallMore': WHATEVER THE INPUT: true; the input reads as it did. -/
def callMoreSpec : ChangeSpec := { name := "callMore", fn := fun _ => fun
  | [d1, d2, d3] => { results := [.lit (.bool true)], args := [d1, d2, d3] }
  | _ => none }
def callMoreRow : OpenClaim := { program := "ythnaamkempmjkaa", sum := "b7c958e501aa7084fd6d1f07792e740d837067f9f844ade442a5a0c8d203fc8d", func := "hailstone/hailstonelaw09.CallMore", spec := "callMore", unfollowed := true, recurses := true, plainKeys := false, apart := false }
def CallMoreSaid : Prop := callMoreRow.holds Try.pinned (OpenSpec.ofChange callMoreSpec)

/-- ITS FALSE NEIGHBOUR: 'it returns false'. Refute it at one input. -/
def callMoreWrong : ChangeSpec := { name := "callMore", fn := fun _ => fun
  | [d1, d2, d3] => { results := [.lit (.bool false)], args := [d1, d2, d3] }
  | _ => none }
def CallMoreWrongFalsely : Prop := callMoreRow.holds Try.pinned (OpenSpec.ofChange callMoreWrong)

/-- 'hailstonelaw09.CallOrder': WHATEVER THE INPUT: true; the input reads as it did. -/
def callOrderSpec : ChangeSpec := { name := "callOrder", fn := fun _ => fun
  | [d1, d2, d3] => { results := [.lit (.bool true)], args := [d1, d2, d3] }
  | _ => none }
def callOrderRow : OpenClaim := { program := "ythnaamkempmjkaa", sum := "b7c958e501aa7084fd6d1f07792e740d837067f9f844ade442a5a0c8d203fc8d", func := "hailstone/hailstonelaw09.CallOrder", spec := "callOrder", unfollowed := true, recurses := true, plainKeys := false, apart := false }
def CallOrderSaid : Prop := callOrderRow.holds Try.pinned (OpenSpec.ofChange callOrderSpec)

/-- ITS FALSE NEIGHBOUR: 'it returns false'. Refute it at one input. -/
def callOrderWrong : ChangeSpec := { name := "callOrder", fn := fun _ => fun
  | [d1, d2, d3] => { results := [.lit (.bool false)], args := [d1, d2, d3] }
  | _ => none }
def CallOrderWrongFalsely : Prop := callOrderRow.holds Try.pinned (OpenSpec.ofChange callOrderWrong)

/-- 'hailstonelaw09.CallUnits': WHATEVER THE INPUT: true; the input reads as it did. -/
def callUnitsSpec : ChangeSpec := { name := "callUnits", fn := fun _ => fun
  | [d1, d2, d3] => { results := [.lit (.bool true)], args := [d1, d2, d3] }
  | _ => none }
def callUnitsRow : OpenClaim := { program := "ythnaamkempmjkaa", sum := "b7c958e501aa7084fd6d1f07792e740d837067f9f844ade442a5a0c8d203fc8d", func := "hailstone/hailstonelaw09.CallUnits", spec := "callUnits", unfollowed := true, recurses := true, plainKeys := false, apart := false }
def CallUnitsSaid : Prop := callUnitsRow.holds Try.pinned (OpenSpec.ofChange callUnitsSpec)

/-- ITS FALSE NEIGHBOUR: 'it returns false'. Refute it at one input. -/
def callUnitsWrong : ChangeSpec := { name := "callUnits", fn := fun _ => fun
  | [d1, d2, d3] => { results := [.lit (.bool false)], args := [d1, d2, d3] }
  | _ => none }
def CallUnitsWrongFalsely : Prop := callUnitsRow.holds Try.pinned (OpenSpec.ofChange callUnitsWrong)

/-- 'hailstonelaw09.CallRate': WHATEVER THE INPUT: true; the input reads as it did. -/
def callRateSpec : ChangeSpec := { name := "callRate", fn := fun _ => fun
  | [d] => { results := [.lit (.bool true)], args := [d] }
  | _ => none }
def callRateRow : OpenClaim := { program := "ythnaamkempmjkaa", sum := "b7c958e501aa7084fd6d1f07792e740d837067f9f844ade442a5a0c8d203fc8d", func := "hailstone/hailstonelaw09.CallRate", spec := "callRate", unfollowed := true, recurses := true, plainKeys := false, apart := false }
def CallRateSaid : Prop := callRateRow.holds Try.pinned (OpenSpec.ofChange callRateSpec)

/-- ITS FALSE NEIGHBOUR: 'it returns false'. Refute it at one input. -/
def callRateWrong : ChangeSpec := { name := "callRate", fn := fun _ => fun
  | [d] => { results := [.lit (.bool false)], args := [d] }
  | _ => none }
def CallRateWrongFalsely : Prop := callRateRow.holds Try.pinned (OpenSpec.ofChange callRateWrong)

/-- 'hailstonelaw09.CallDefault': WHATEVER THE INPUT: true; the input reads as it did. -/
def callDefaultSpec : ChangeSpec := { name := "callDefault", fn := fun _ => fun
  | [d1, d2, d3] => { results := [.lit (.bool true)], args := [d1, d2, d3] }
  | _ => none }
def callDefaultRow : OpenClaim := { program := "ythnaamkempmjkaa", sum := "b7c958e501aa7084fd6d1f07792e740d837067f9f844ade442a5a0c8d203fc8d", func := "hailstone/hailstonelaw09.CallDefault", spec := "callDefault", unfollowed := true, recurses := true, plainKeys := false, apart := false }
def CallDefaultSaid : Prop := callDefaultRow.holds Try.pinned (OpenSpec.ofChange callDefaultSpec)

/-- ITS FALSE NEIGHBOUR: 'it returns false'. Refute it at one input. -/
def callDefaultWrong : ChangeSpec := { name := "callDefault", fn := fun _ => fun
  | [d1, d2, d3] => { results := [.lit (.bool false)], args := [d1, d2, d3] }
  | _ => none }
def CallDefaultWrongFalsely : Prop := callDefaultRow.holds Try.pinned (OpenSpec.ofChange callDefaultWrong)

/-- 'hailstonelaw09.CallBounds': WHATEVER THE INPUT: true; the input reads as it did. -/
def callBoundsSpec : ChangeSpec := { name := "callBounds", fn := fun _ => fun
  | [d1, d2] => { results := [.lit (.bool true)], args := [d1, d2] }
  | _ => none }
def callBoundsRow : OpenClaim := { program := "ythnaamkempmjkaa", sum := "b7c958e501aa7084fd6d1f07792e740d837067f9f844ade442a5a0c8d203fc8d", func := "hailstone/hailstonelaw09.CallBounds", spec := "callBounds", unfollowed := true, recurses := true, plainKeys := false, apart := false }
def CallBoundsSaid : Prop := callBoundsRow.holds Try.pinned (OpenSpec.ofChange callBoundsSpec)

/-- ITS FALSE NEIGHBOUR: 'it returns false'. Refute it at one input. -/
def callBoundsWrong : ChangeSpec := { name := "callBounds", fn := fun _ => fun
  | [d1, d2] => { results := [.lit (.bool false)], args := [d1, d2] }
  | _ => none }
def CallBoundsWrongFalsely : Prop := callBoundsRow.holds Try.pinned (OpenSpec.ofChange callBoundsWrong)

/-- 'hailstonelaw09.CallMissed': WHATEVER THE INPUT: true; the input reads as it did. -/
def callMissedSpec : ChangeSpec := { name := "callMissed", fn := fun _ => fun
  | [d1, d2] => { results := [.lit (.bool true)], args := [d1, d2] }
  | _ => none }
def callMissedRow : OpenClaim := { program := "ythnaamkempmjkaa", sum := "b7c958e501aa7084fd6d1f07792e740d837067f9f844ade442a5a0c8d203fc8d", func := "hailstone/hailstonelaw09.CallMissed", spec := "callMissed", unfollowed := true, recurses := true, plainKeys := false, apart := false }
def CallMissedSaid : Prop := callMissedRow.holds Try.pinned (OpenSpec.ofChange callMissedSpec)

/-- ITS FALSE NEIGHBOUR: 'it returns false'. Refute it at one input. -/
def callMissedWrong : ChangeSpec := { name := "callMissed", fn := fun _ => fun
  | [d1, d2] => { results := [.lit (.bool false)], args := [d1, d2] }
  | _ => none }
def CallMissedWrongFalsely : Prop := callMissedRow.holds Try.pinned (OpenSpec.ofChange callMissedWrong)

/-- 'hailstonelaw09.CallWider': WHATEVER THE INPUT: true; the input reads as it did. -/
def callWiderSpec : ChangeSpec := { name := "callWider", fn := fun _ => fun
  | [d1, d2, d3] => { results := [.lit (.bool true)], args := [d1, d2, d3] }
  | _ => none }
def callWiderRow : OpenClaim := { program := "ythnaamkempmjkaa", sum := "b7c958e501aa7084fd6d1f07792e740d837067f9f844ade442a5a0c8d203fc8d", func := "hailstone/hailstonelaw09.CallWider", spec := "callWider", unfollowed := true, recurses := true, plainKeys := false, apart := false }
def CallWiderSaid : Prop := callWiderRow.holds Try.pinned (OpenSpec.ofChange callWiderSpec)

/-- ITS FALSE NEIGHBOUR: 'it returns false'. Refute it at one input. -/
def callWiderWrong : ChangeSpec := { name := "callWider", fn := fun _ => fun
  | [d1, d2, d3] => { results := [.lit (.bool false)], args := [d1, d2, d3] }
  | _ => none }
def CallWiderWrongFalsely : Prop := callWiderRow.holds Try.pinned (OpenSpec.ofChange callWiderWrong)

/-- 'hailstonelaw09.CallCalls': WHATEVER THE INPUT: true; the input reads as it did. -/
def callCallsSpec : ChangeSpec := { name := "callCalls", fn := fun _ => fun
  | [d1, d2, d3] => { results := [.lit (.bool true)], args := [d1, d2, d3] }
  | _ => none }
def callCallsRow : OpenClaim := { program := "ythnaamkempmjkaa", sum := "b7c958e501aa7084fd6d1f07792e740d837067f9f844ade442a5a0c8d203fc8d", func := "hailstone/hailstonelaw09.CallCalls", spec := "callCalls", unfollowed := true, recurses := true, plainKeys := false, apart := false }
def CallCallsSaid : Prop := callCallsRow.holds Try.pinned (OpenSpec.ofChange callCallsSpec)

/-- ITS FALSE NEIGHBOUR: 'it returns false'. Refute it at one input. -/
def callCallsWrong : ChangeSpec := { name := "callCalls", fn := fun _ => fun
  | [d1, d2, d3] => { results := [.lit (.bool false)], args := [d1, d2, d3] }
  | _ => none }
def CallCallsWrongFalsely : Prop := callCallsRow.holds Try.pinned (OpenSpec.ofChange callCallsWrong)

/-- 'hailstonelaw09.CallNeeds': WHATEVER THE INPUT: true; the input reads as it did. -/
def callNeedsSpec : ChangeSpec := { name := "callNeeds", fn := fun _ => fun
  | [d1, d2] => { results := [.lit (.bool true)], args := [d1, d2] }
  | _ => none }
def callNeedsRow : OpenClaim := { program := "ythnaamkempmjkaa", sum := "b7c958e501aa7084fd6d1f07792e740d837067f9f844ade442a5a0c8d203fc8d", func := "hailstone/hailstonelaw09.CallNeeds", spec := "callNeeds", unfollowed := true, recurses := true, plainKeys := false, apart := false }
def CallNeedsSaid : Prop := callNeedsRow.holds Try.pinned (OpenSpec.ofChange callNeedsSpec)

/-- ITS FALSE NEIGHBOUR: 'it returns false'. Refute it at one input. -/
def callNeedsWrong : ChangeSpec := { name := "callNeeds", fn := fun _ => fun
  | [d1, d2] => { results := [.lit (.bool false)], args := [d1, d2] }
  | _ => none }
def CallNeedsWrongFalsely : Prop := callNeedsRow.holds Try.pinned (OpenSpec.ofChange callNeedsWrong)

/-- 'hailstonelaw09.CallNames': WHATEVER THE INPUT: true; the input reads as it did. -/
def callNamesSpec : ChangeSpec := { name := "callNames", fn := fun _ => fun
  | [] => { results := [.lit (.bool true)], args := [] }
  | _ => none }
def callNamesRow : OpenClaim := { program := "ythnaamkempmjkaa", sum := "b7c958e501aa7084fd6d1f07792e740d837067f9f844ade442a5a0c8d203fc8d", func := "hailstone/hailstonelaw09.CallNames", spec := "callNames", unfollowed := true, recurses := true, plainKeys := false, apart := false }
def CallNamesSaid : Prop := callNamesRow.holds Try.pinned (OpenSpec.ofChange callNamesSpec)

/-- ITS FALSE NEIGHBOUR: 'it returns false'. Refute it at one input. -/
def callNamesWrong : ChangeSpec := { name := "callNames", fn := fun _ => fun
  | [] => { results := [.lit (.bool false)], args := [] }
  | _ => none }
def CallNamesWrongFalsely : Prop := callNamesRow.holds Try.pinned (OpenSpec.ofChange callNamesWrong)

/-- 'hailstonelaw09.CallTruth': WHATEVER THE INPUT: true; the input reads as it did. -/
def callTruthSpec : ChangeSpec := { name := "callTruth", fn := fun _ => fun
  | [d1, d2] => { results := [.lit (.bool true)], args := [d1, d2] }
  | _ => none }
def callTruthRow : OpenClaim := { program := "ythnaamkempmjkaa", sum := "b7c958e501aa7084fd6d1f07792e740d837067f9f844ade442a5a0c8d203fc8d", func := "hailstone/hailstonelaw09.CallTruth", spec := "callTruth", unfollowed := true, recurses := true, plainKeys := false, apart := false }
def CallTruthSaid : Prop := callTruthRow.holds Try.pinned (OpenSpec.ofChange callTruthSpec)

/-- ITS FALSE NEIGHBOUR: 'it returns false'. Refute it at one input. -/
def callTruthWrong : ChangeSpec := { name := "callTruth", fn := fun _ => fun
  | [d1, d2] => { results := [.lit (.bool false)], args := [d1, d2] }
  | _ => none }
def CallTruthWrongFalsely : Prop := callTruthRow.holds Try.pinned (OpenSpec.ofChange callTruthWrong)

/- THE SECOND FORM. 'bulk': how many values and letters a reading holds, each counted each time it is reached (what is shared counts as often as it is met; a slice's spare places count too). A statement '..UptoSaid' is the law's where the arguments, and the package variables that the reading takes, are together of bulk at most 1048576: NARROWER than '..Said'. Prove '..Said' where nothing that the law and all that it calls make is longer than what came in: it says more and counts as full. Else prove '..UptoSaid'. A law counts once. -/
mutual
def uptoBulk {H : Type} : DataW H → Nat
  | .lit (.string bytes) => bytes.length + 1
  | .lit _ => 1
  | .nil => 1
  | .ptr d => uptoBulk d + 1
  | .slice elems spare => uptoBulkAll elems + uptoBulkAll spare + 1
  | .agg parts => uptoBulkAll parts + 1
  | .iface _ d => uptoBulk d + 1
  | .map entries => uptoBulkEntries entries + 1
  | .held _ => 1
def uptoBulkAll {H : Type} : List (DataW H) → Nat
  | [] => 0
  | d :: r => uptoBulk d + uptoBulkAll r
def uptoBulkEntries {H : Type} : List (Lit × DataW H) → Nat
  | [] => 0
  | x :: r => uptoBulkEntry x + uptoBulkEntries r
def uptoBulkEntry {H : Type} : Lit × DataW H → Nat
  | (.string bytes, d) => bytes.length + uptoBulk d + 1
  | (_, d) => uptoBulk d + 1
 end
def uptoSmall : (H : Type) → List (DataW H) → Bool := fun _ ds => decide (uptoBulkAll ds ≤ 1048576)
def OpenSpec.upto (s : _root_.Go.ChangeSpec) : _root_.Go.OpenSpec := { _root_.Go.OpenSpec.ofChange s with cond := some uptoSmall }

/-- 'hailstonelaw09.CallRates', WHERE WHAT IT READS IS OF BULK AT MOST 1048576: true; the input reads as it did. -/
def callRatesUptoRow : OpenClaim := { program := "ythnaamkempmjkaa", sum := "b7c958e501aa7084fd6d1f07792e740d837067f9f844ade442a5a0c8d203fc8d", func := "hailstone/hailstonelaw09.CallRates", spec := "callRates", unfollowed := true, recurses := true, plainKeys := false, apart := false, narrowed := true }
def CallRatesUptoSaid : Prop := callRatesUptoRow.holds Try.pinned (OpenSpec.upto callRatesSpec)

/-- 'hailstonelaw09.CallEnds', WHERE WHAT IT READS IS OF BULK AT MOST 1048576: true; the input reads as it did. -/
def callEndsUptoRow : OpenClaim := { program := "ythnaamkempmjkaa", sum := "b7c958e501aa7084fd6d1f07792e740d837067f9f844ade442a5a0c8d203fc8d", func := "hailstone/hailstonelaw09.CallEnds", spec := "callEnds", unfollowed := true, recurses := true, plainKeys := false, apart := false, narrowed := true }
def CallEndsUptoSaid : Prop := callEndsUptoRow.holds Try.pinned (OpenSpec.upto callEndsSpec)

/-- 'hailstonelaw09.CallEqual', WHERE WHAT IT READS IS OF BULK AT MOST 1048576: true; the input reads as it did. -/
def callEqualUptoRow : OpenClaim := { program := "ythnaamkempmjkaa", sum := "b7c958e501aa7084fd6d1f07792e740d837067f9f844ade442a5a0c8d203fc8d", func := "hailstone/hailstonelaw09.CallEqual", spec := "callEqual", unfollowed := true, recurses := true, plainKeys := false, apart := false, narrowed := true }
def CallEqualUptoSaid : Prop := callEqualUptoRow.holds Try.pinned (OpenSpec.upto callEqualSpec)

/-- 'hailstonelaw09.CallMore', WHERE WHAT IT READS IS OF BULK AT MOST 1048576: true; the input reads as it did. -/
def callMoreUptoRow : OpenClaim := { program := "ythnaamkempmjkaa", sum := "b7c958e501aa7084fd6d1f07792e740d837067f9f844ade442a5a0c8d203fc8d", func := "hailstone/hailstonelaw09.CallMore", spec := "callMore", unfollowed := true, recurses := true, plainKeys := false, apart := false, narrowed := true }
def CallMoreUptoSaid : Prop := callMoreUptoRow.holds Try.pinned (OpenSpec.upto callMoreSpec)

/-- 'hailstonelaw09.CallOrder', WHERE WHAT IT READS IS OF BULK AT MOST 1048576: true; the input reads as it did. -/
def callOrderUptoRow : OpenClaim := { program := "ythnaamkempmjkaa", sum := "b7c958e501aa7084fd6d1f07792e740d837067f9f844ade442a5a0c8d203fc8d", func := "hailstone/hailstonelaw09.CallOrder", spec := "callOrder", unfollowed := true, recurses := true, plainKeys := false, apart := false, narrowed := true }
def CallOrderUptoSaid : Prop := callOrderUptoRow.holds Try.pinned (OpenSpec.upto callOrderSpec)

/-- 'hailstonelaw09.CallUnits', WHERE WHAT IT READS IS OF BULK AT MOST 1048576: true; the input reads as it did. -/
def callUnitsUptoRow : OpenClaim := { program := "ythnaamkempmjkaa", sum := "b7c958e501aa7084fd6d1f07792e740d837067f9f844ade442a5a0c8d203fc8d", func := "hailstone/hailstonelaw09.CallUnits", spec := "callUnits", unfollowed := true, recurses := true, plainKeys := false, apart := false, narrowed := true }
def CallUnitsUptoSaid : Prop := callUnitsUptoRow.holds Try.pinned (OpenSpec.upto callUnitsSpec)

/-- 'hailstonelaw09.CallRate', WHERE WHAT IT READS IS OF BULK AT MOST 1048576: true; the input reads as it did. -/
def callRateUptoRow : OpenClaim := { program := "ythnaamkempmjkaa", sum := "b7c958e501aa7084fd6d1f07792e740d837067f9f844ade442a5a0c8d203fc8d", func := "hailstone/hailstonelaw09.CallRate", spec := "callRate", unfollowed := true, recurses := true, plainKeys := false, apart := false, narrowed := true }
def CallRateUptoSaid : Prop := callRateUptoRow.holds Try.pinned (OpenSpec.upto callRateSpec)

/-- 'hailstonelaw09.CallDefault', WHERE WHAT IT READS IS OF BULK AT MOST 1048576: true; the input reads as it did. -/
def callDefaultUptoRow : OpenClaim := { program := "ythnaamkempmjkaa", sum := "b7c958e501aa7084fd6d1f07792e740d837067f9f844ade442a5a0c8d203fc8d", func := "hailstone/hailstonelaw09.CallDefault", spec := "callDefault", unfollowed := true, recurses := true, plainKeys := false, apart := false, narrowed := true }
def CallDefaultUptoSaid : Prop := callDefaultUptoRow.holds Try.pinned (OpenSpec.upto callDefaultSpec)

/-- 'hailstonelaw09.CallBounds', WHERE WHAT IT READS IS OF BULK AT MOST 1048576: true; the input reads as it did. -/
def callBoundsUptoRow : OpenClaim := { program := "ythnaamkempmjkaa", sum := "b7c958e501aa7084fd6d1f07792e740d837067f9f844ade442a5a0c8d203fc8d", func := "hailstone/hailstonelaw09.CallBounds", spec := "callBounds", unfollowed := true, recurses := true, plainKeys := false, apart := false, narrowed := true }
def CallBoundsUptoSaid : Prop := callBoundsUptoRow.holds Try.pinned (OpenSpec.upto callBoundsSpec)

/-- 'hailstonelaw09.CallMissed', WHERE WHAT IT READS IS OF BULK AT MOST 1048576: true; the input reads as it did. -/
def callMissedUptoRow : OpenClaim := { program := "ythnaamkempmjkaa", sum := "b7c958e501aa7084fd6d1f07792e740d837067f9f844ade442a5a0c8d203fc8d", func := "hailstone/hailstonelaw09.CallMissed", spec := "callMissed", unfollowed := true, recurses := true, plainKeys := false, apart := false, narrowed := true }
def CallMissedUptoSaid : Prop := callMissedUptoRow.holds Try.pinned (OpenSpec.upto callMissedSpec)

/-- 'hailstonelaw09.CallWider', WHERE WHAT IT READS IS OF BULK AT MOST 1048576: true; the input reads as it did. -/
def callWiderUptoRow : OpenClaim := { program := "ythnaamkempmjkaa", sum := "b7c958e501aa7084fd6d1f07792e740d837067f9f844ade442a5a0c8d203fc8d", func := "hailstone/hailstonelaw09.CallWider", spec := "callWider", unfollowed := true, recurses := true, plainKeys := false, apart := false, narrowed := true }
def CallWiderUptoSaid : Prop := callWiderUptoRow.holds Try.pinned (OpenSpec.upto callWiderSpec)

/-- 'hailstonelaw09.CallCalls', WHERE WHAT IT READS IS OF BULK AT MOST 1048576: true; the input reads as it did. -/
def callCallsUptoRow : OpenClaim := { program := "ythnaamkempmjkaa", sum := "b7c958e501aa7084fd6d1f07792e740d837067f9f844ade442a5a0c8d203fc8d", func := "hailstone/hailstonelaw09.CallCalls", spec := "callCalls", unfollowed := true, recurses := true, plainKeys := false, apart := false, narrowed := true }
def CallCallsUptoSaid : Prop := callCallsUptoRow.holds Try.pinned (OpenSpec.upto callCallsSpec)

/-- 'hailstonelaw09.CallNeeds', WHERE WHAT IT READS IS OF BULK AT MOST 1048576: true; the input reads as it did. -/
def callNeedsUptoRow : OpenClaim := { program := "ythnaamkempmjkaa", sum := "b7c958e501aa7084fd6d1f07792e740d837067f9f844ade442a5a0c8d203fc8d", func := "hailstone/hailstonelaw09.CallNeeds", spec := "callNeeds", unfollowed := true, recurses := true, plainKeys := false, apart := false, narrowed := true }
def CallNeedsUptoSaid : Prop := callNeedsUptoRow.holds Try.pinned (OpenSpec.upto callNeedsSpec)

/-- 'hailstonelaw09.CallNames', WHERE WHAT IT READS IS OF BULK AT MOST 1048576: true; the input reads as it did. -/
def callNamesUptoRow : OpenClaim := { program := "ythnaamkempmjkaa", sum := "b7c958e501aa7084fd6d1f07792e740d837067f9f844ade442a5a0c8d203fc8d", func := "hailstone/hailstonelaw09.CallNames", spec := "callNames", unfollowed := true, recurses := true, plainKeys := false, apart := false, narrowed := true }
def CallNamesUptoSaid : Prop := callNamesUptoRow.holds Try.pinned (OpenSpec.upto callNamesSpec)

/-- 'hailstonelaw09.CallTruth', WHERE WHAT IT READS IS OF BULK AT MOST 1048576: true; the input reads as it did. -/
def callTruthUptoRow : OpenClaim := { program := "ythnaamkempmjkaa", sum := "b7c958e501aa7084fd6d1f07792e740d837067f9f844ade442a5a0c8d203fc8d", func := "hailstone/hailstonelaw09.CallTruth", spec := "callTruth", unfollowed := true, recurses := true, plainKeys := false, apart := false, narrowed := true }
def CallTruthUptoSaid : Prop := callTruthUptoRow.holds Try.pinned (OpenSpec.upto callTruthSpec)

end Rows
end Go.Proofs.Ythnaamkempmjkaa
