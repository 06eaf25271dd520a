/-
  No cell of these rows narrows 'for every input' (looked for: loops, veiled, ifaces, maps, wideKeys, modest, calm, conditions, laid).
  DERIVED. THE GIVEN ROWS OF THIS SEAT. 14 by the template 'for every input the law returns true; each argument reads behind the call as it read before'; 0 by the template 'total and deterministic' (their statements: YtelnonfenpjjcaaTotals.lean).
  GIVEN WITH THE SEED: the statements are not yours to turn. If you find one false, say at which input.
  Laid BY PROGRAM, IN A SANDBOX (cutbox-rows.mjs): the forced cells as the released guide's own fill.sh prints them over the translation 463b5335a2400a03… (all of the seat's roots in one cut). By AI agents, Wed Nov 11 2026. No macro, syntax, notation, axiom, sorry.
-/
import Derived.Test.YtelnonfenpjjcaaChecked
import GoSem.Claim
import GoSem.ClaimJoined
import GoSem.ClaimMapViews
import Derived.JoinedTies
import Derived.KernelRfl
namespace Go.Proofs.Ytelnonfenpjjcaa
/- THE CELL 'sum', in the pinned program and in every row, IS THE sha256 OF THE DUMP (.gsa) THAT YtelnonfenpjjcaaProg.lean LOADS. Nothing in Lean hashes anything: it is a label: what it is worth is what the hold of that sum in a sandbox is worth. -/
noncomputable def Try.pinned : Pinned := { name := "ytelnonfenpjjcaa", sum := "463b5335a2400a031f5ad5362732368ed9c67f07305ccd30af2ef5e5df9a2c81", checked := Try.checked }
namespace Rows
def none {H : Type} : Left H := { results := [], args := [] }

/-- 'hailstonelaw11.ZoneReaches': WHATEVER THE INPUT: true; the input reads as it did. -/
def zoneReachesSpec : ChangeSpec := { name := "zoneReaches", fn := fun _ => fun
  | [d1, d2, d3] => { results := [.lit (.bool true)], args := [d1, d2, d3] }
  | _ => none }
def zoneReachesRow : OpenClaim := { program := "ytelnonfenpjjcaa", sum := "463b5335a2400a031f5ad5362732368ed9c67f07305ccd30af2ef5e5df9a2c81", func := "hailstone/hailstonelaw11.ZoneReaches", spec := "zoneReaches", unfollowed := true, recurses := true, plainKeys := false, apart := false }
def ZoneReachesSaid : Prop := zoneReachesRow.holds Try.pinned (OpenSpec.ofChange zoneReachesSpec)

/-- ITS FALSE NEIGHBOUR: 'it returns false'. Refute it at one input. -/
def zoneReachesWrong : ChangeSpec := { name := "zoneReaches", fn := fun _ => fun
  | [d1, d2, d3] => { results := [.lit (.bool false)], args := [d1, d2, d3] }
  | _ => none }
def ZoneReachesWrongFalsely : Prop := zoneReachesRow.holds Try.pinned (OpenSpec.ofChange zoneReachesWrong)

/-- 'hailstonelaw11.ZoneNexts': WHATEVER THE INPUT: true; the input reads as it did. -/
def zoneNextsSpec : ChangeSpec := { name := "zoneNexts", fn := fun _ => fun
  | [d1, d2] => { results := [.lit (.bool true)], args := [d1, d2] }
  | _ => none }
def zoneNextsRow : OpenClaim := { program := "ytelnonfenpjjcaa", sum := "463b5335a2400a031f5ad5362732368ed9c67f07305ccd30af2ef5e5df9a2c81", func := "hailstone/hailstonelaw11.ZoneNexts", spec := "zoneNexts", unfollowed := true, recurses := true, plainKeys := false, apart := false }
def ZoneNextsSaid : Prop := zoneNextsRow.holds Try.pinned (OpenSpec.ofChange zoneNextsSpec)

/-- ITS FALSE NEIGHBOUR: 'it returns false'. Refute it at one input. -/
def zoneNextsWrong : ChangeSpec := { name := "zoneNexts", fn := fun _ => fun
  | [d1, d2] => { results := [.lit (.bool false)], args := [d1, d2] }
  | _ => none }
def ZoneNextsWrongFalsely : Prop := zoneNextsRow.holds Try.pinned (OpenSpec.ofChange zoneNextsWrong)

/-- 'hailstonelaw11.ZoneFalse': WHATEVER THE INPUT: true; the input reads as it did. -/
def zoneFalseSpec : ChangeSpec := { name := "zoneFalse", fn := fun _ => fun
  | [d1, d2, d3] => { results := [.lit (.bool true)], args := [d1, d2, d3] }
  | _ => none }
def zoneFalseRow : OpenClaim := { program := "ytelnonfenpjjcaa", sum := "463b5335a2400a031f5ad5362732368ed9c67f07305ccd30af2ef5e5df9a2c81", func := "hailstone/hailstonelaw11.ZoneFalse", spec := "zoneFalse", unfollowed := true, recurses := true, plainKeys := false, apart := false }
def ZoneFalseSaid : Prop := zoneFalseRow.holds Try.pinned (OpenSpec.ofChange zoneFalseSpec)

/-- ITS FALSE NEIGHBOUR: 'it returns false'. Refute it at one input. -/
def zoneFalseWrong : ChangeSpec := { name := "zoneFalse", fn := fun _ => fun
  | [d1, d2, d3] => { results := [.lit (.bool false)], args := [d1, d2, d3] }
  | _ => none }
def ZoneFalseWrongFalsely : Prop := zoneFalseRow.holds Try.pinned (OpenSpec.ofChange zoneFalseWrong)

/-- 'hailstonelaw11.ZoneSure': WHATEVER THE INPUT: true; the input reads as it did. -/
def zoneSureSpec : ChangeSpec := { name := "zoneSure", fn := fun _ => fun
  | [d1, d2] => { results := [.lit (.bool true)], args := [d1, d2] }
  | _ => none }
def zoneSureRow : OpenClaim := { program := "ytelnonfenpjjcaa", sum := "463b5335a2400a031f5ad5362732368ed9c67f07305ccd30af2ef5e5df9a2c81", func := "hailstone/hailstonelaw11.ZoneSure", spec := "zoneSure", unfollowed := true, recurses := true, plainKeys := false, apart := false }
def ZoneSureSaid : Prop := zoneSureRow.holds Try.pinned (OpenSpec.ofChange zoneSureSpec)

/-- ITS FALSE NEIGHBOUR: 'it returns false'. Refute it at one input. -/
def zoneSureWrong : ChangeSpec := { name := "zoneSure", fn := fun _ => fun
  | [d1, d2] => { results := [.lit (.bool false)], args := [d1, d2] }
  | _ => none }
def ZoneSureWrongFalsely : Prop := zoneSureRow.holds Try.pinned (OpenSpec.ofChange zoneSureWrong)

/-- 'hailstonelaw11.ZoneWorse': WHATEVER THE INPUT: true; the input reads as it did. -/
def zoneWorseSpec : ChangeSpec := { name := "zoneWorse", fn := fun _ => fun
  | [d1, d2, d3] => { results := [.lit (.bool true)], args := [d1, d2, d3] }
  | _ => none }
def zoneWorseRow : OpenClaim := { program := "ytelnonfenpjjcaa", sum := "463b5335a2400a031f5ad5362732368ed9c67f07305ccd30af2ef5e5df9a2c81", func := "hailstone/hailstonelaw11.ZoneWorse", spec := "zoneWorse", unfollowed := true, recurses := true, plainKeys := false, apart := false }
def ZoneWorseSaid : Prop := zoneWorseRow.holds Try.pinned (OpenSpec.ofChange zoneWorseSpec)

/-- ITS FALSE NEIGHBOUR: 'it returns false'. Refute it at one input. -/
def zoneWorseWrong : ChangeSpec := { name := "zoneWorse", fn := fun _ => fun
  | [d1, d2, d3] => { results := [.lit (.bool false)], args := [d1, d2, d3] }
  | _ => none }
def ZoneWorseWrongFalsely : Prop := zoneWorseRow.holds Try.pinned (OpenSpec.ofChange zoneWorseWrong)

/-- 'hailstonelaw11.ZoneWider': WHATEVER THE INPUT: true; the input reads as it did. -/
def zoneWiderSpec : ChangeSpec := { name := "zoneWider", fn := fun _ => fun
  | [d1, d2, d3, d4, d5] => { results := [.lit (.bool true)], args := [d1, d2, d3, d4, d5] }
  | _ => none }
def zoneWiderRow : OpenClaim := { program := "ytelnonfenpjjcaa", sum := "463b5335a2400a031f5ad5362732368ed9c67f07305ccd30af2ef5e5df9a2c81", func := "hailstone/hailstonelaw11.ZoneWider", spec := "zoneWider", unfollowed := true, recurses := true, plainKeys := false, apart := false }
def ZoneWiderSaid : Prop := zoneWiderRow.holds Try.pinned (OpenSpec.ofChange zoneWiderSpec)

/-- ITS FALSE NEIGHBOUR: 'it returns false'. Refute it at one input. -/
def zoneWiderWrong : ChangeSpec := { name := "zoneWider", fn := fun _ => fun
  | [d1, d2, d3, d4, d5] => { results := [.lit (.bool false)], args := [d1, d2, d3, d4, d5] }
  | _ => none }
def ZoneWiderWrongFalsely : Prop := zoneWiderRow.holds Try.pinned (OpenSpec.ofChange zoneWiderWrong)

/-- 'hailstonelaw11.ZoneLeast': WHATEVER THE INPUT: true; the input reads as it did. -/
def zoneLeastSpec : ChangeSpec := { name := "zoneLeast", fn := fun _ => fun
  | [d1, d2, d3] => { results := [.lit (.bool true)], args := [d1, d2, d3] }
  | _ => none }
def zoneLeastRow : OpenClaim := { program := "ytelnonfenpjjcaa", sum := "463b5335a2400a031f5ad5362732368ed9c67f07305ccd30af2ef5e5df9a2c81", func := "hailstone/hailstonelaw11.ZoneLeast", spec := "zoneLeast", unfollowed := true, recurses := true, plainKeys := false, apart := false }
def ZoneLeastSaid : Prop := zoneLeastRow.holds Try.pinned (OpenSpec.ofChange zoneLeastSpec)

/-- ITS FALSE NEIGHBOUR: 'it returns false'. Refute it at one input. -/
def zoneLeastWrong : ChangeSpec := { name := "zoneLeast", fn := fun _ => fun
  | [d1, d2, d3] => { results := [.lit (.bool false)], args := [d1, d2, d3] }
  | _ => none }
def ZoneLeastWrongFalsely : Prop := zoneLeastRow.holds Try.pinned (OpenSpec.ofChange zoneLeastWrong)

/-- 'hailstonelaw11.ZonePrefix': WHATEVER THE INPUT: true; the input reads as it did. -/
def zonePrefixSpec : ChangeSpec := { name := "zonePrefix", fn := fun _ => fun
  | [d1, d2, d3] => { results := [.lit (.bool true)], args := [d1, d2, d3] }
  | _ => none }
def zonePrefixRow : OpenClaim := { program := "ytelnonfenpjjcaa", sum := "463b5335a2400a031f5ad5362732368ed9c67f07305ccd30af2ef5e5df9a2c81", func := "hailstone/hailstonelaw11.ZonePrefix", spec := "zonePrefix", unfollowed := true, recurses := true, plainKeys := false, apart := false }
def ZonePrefixSaid : Prop := zonePrefixRow.holds Try.pinned (OpenSpec.ofChange zonePrefixSpec)

/-- ITS FALSE NEIGHBOUR: 'it returns false'. Refute it at one input. -/
def zonePrefixWrong : ChangeSpec := { name := "zonePrefix", fn := fun _ => fun
  | [d1, d2, d3] => { results := [.lit (.bool false)], args := [d1, d2, d3] }
  | _ => none }
def ZonePrefixWrongFalsely : Prop := zonePrefixRow.holds Try.pinned (OpenSpec.ofChange zonePrefixWrong)

/-- 'hailstonelaw11.ZoneIdle': WHATEVER THE INPUT: true; the input reads as it did. -/
def zoneIdleSpec : ChangeSpec := { name := "zoneIdle", fn := fun _ => fun
  | [d1, d2, d3, d4] => { results := [.lit (.bool true)], args := [d1, d2, d3, d4] }
  | _ => none }
def zoneIdleRow : OpenClaim := { program := "ytelnonfenpjjcaa", sum := "463b5335a2400a031f5ad5362732368ed9c67f07305ccd30af2ef5e5df9a2c81", func := "hailstone/hailstonelaw11.ZoneIdle", spec := "zoneIdle", unfollowed := true, recurses := true, plainKeys := false, apart := false }
def ZoneIdleSaid : Prop := zoneIdleRow.holds Try.pinned (OpenSpec.ofChange zoneIdleSpec)

/-- ITS FALSE NEIGHBOUR: 'it returns false'. Refute it at one input. -/
def zoneIdleWrong : ChangeSpec := { name := "zoneIdle", fn := fun _ => fun
  | [d1, d2, d3, d4] => { results := [.lit (.bool false)], args := [d1, d2, d3, d4] }
  | _ => none }
def ZoneIdleWrongFalsely : Prop := zoneIdleRow.holds Try.pinned (OpenSpec.ofChange zoneIdleWrong)

/-- 'hailstonelaw11.ZoneScaled': WHATEVER THE INPUT: true; the input reads as it did. -/
def zoneScaledSpec : ChangeSpec := { name := "zoneScaled", fn := fun _ => fun
  | [d1, d2, d3, d4] => { results := [.lit (.bool true)], args := [d1, d2, d3, d4] }
  | _ => none }
def zoneScaledRow : OpenClaim := { program := "ytelnonfenpjjcaa", sum := "463b5335a2400a031f5ad5362732368ed9c67f07305ccd30af2ef5e5df9a2c81", func := "hailstone/hailstonelaw11.ZoneScaled", spec := "zoneScaled", unfollowed := true, recurses := true, plainKeys := false, apart := false }
def ZoneScaledSaid : Prop := zoneScaledRow.holds Try.pinned (OpenSpec.ofChange zoneScaledSpec)

/-- ITS FALSE NEIGHBOUR: 'it returns false'. Refute it at one input. -/
def zoneScaledWrong : ChangeSpec := { name := "zoneScaled", fn := fun _ => fun
  | [d1, d2, d3, d4] => { results := [.lit (.bool false)], args := [d1, d2, d3, d4] }
  | _ => none }
def ZoneScaledWrongFalsely : Prop := zoneScaledRow.holds Try.pinned (OpenSpec.ofChange zoneScaledWrong)

/-- 'hailstonelaw11.ZoneRest': WHATEVER THE INPUT: true; the input reads as it did. -/
def zoneRestSpec : ChangeSpec := { name := "zoneRest", fn := fun _ => fun
  | [d1, d2, d3, d4] => { results := [.lit (.bool true)], args := [d1, d2, d3, d4] }
  | _ => none }
def zoneRestRow : OpenClaim := { program := "ytelnonfenpjjcaa", sum := "463b5335a2400a031f5ad5362732368ed9c67f07305ccd30af2ef5e5df9a2c81", func := "hailstone/hailstonelaw11.ZoneRest", spec := "zoneRest", unfollowed := true, recurses := true, plainKeys := false, apart := false }
def ZoneRestSaid : Prop := zoneRestRow.holds Try.pinned (OpenSpec.ofChange zoneRestSpec)

/-- ITS FALSE NEIGHBOUR: 'it returns false'. Refute it at one input. -/
def zoneRestWrong : ChangeSpec := { name := "zoneRest", fn := fun _ => fun
  | [d1, d2, d3, d4] => { results := [.lit (.bool false)], args := [d1, d2, d3, d4] }
  | _ => none }
def ZoneRestWrongFalsely : Prop := zoneRestRow.holds Try.pinned (OpenSpec.ofChange zoneRestWrong)

/-- 'hailstonelaw11.ZonePlays': WHATEVER THE INPUT: true; the input reads as it did. -/
def zonePlaysSpec : ChangeSpec := { name := "zonePlays", fn := fun _ => fun
  | [d1, d2, d3, d4] => { results := [.lit (.bool true)], args := [d1, d2, d3, d4] }
  | _ => none }
def zonePlaysRow : OpenClaim := { program := "ytelnonfenpjjcaa", sum := "463b5335a2400a031f5ad5362732368ed9c67f07305ccd30af2ef5e5df9a2c81", func := "hailstone/hailstonelaw11.ZonePlays", spec := "zonePlays", unfollowed := true, recurses := true, plainKeys := false, apart := false }
def ZonePlaysSaid : Prop := zonePlaysRow.holds Try.pinned (OpenSpec.ofChange zonePlaysSpec)

/-- ITS FALSE NEIGHBOUR: 'it returns false'. Refute it at one input. -/
def zonePlaysWrong : ChangeSpec := { name := "zonePlays", fn := fun _ => fun
  | [d1, d2, d3, d4] => { results := [.lit (.bool false)], args := [d1, d2, d3, d4] }
  | _ => none }
def ZonePlaysWrongFalsely : Prop := zonePlaysRow.holds Try.pinned (OpenSpec.ofChange zonePlaysWrong)

/-- 'hailstonelaw11.ZoneNames': WHATEVER THE INPUT: true; the input reads as it did. -/
def zoneNamesSpec : ChangeSpec := { name := "zoneNames", fn := fun _ => fun
  | [] => { results := [.lit (.bool true)], args := [] }
  | _ => none }
def zoneNamesRow : OpenClaim := { program := "ytelnonfenpjjcaa", sum := "463b5335a2400a031f5ad5362732368ed9c67f07305ccd30af2ef5e5df9a2c81", func := "hailstone/hailstonelaw11.ZoneNames", spec := "zoneNames", unfollowed := true, recurses := true, plainKeys := false, apart := false }
def ZoneNamesSaid : Prop := zoneNamesRow.holds Try.pinned (OpenSpec.ofChange zoneNamesSpec)

/-- ITS FALSE NEIGHBOUR: 'it returns false'. Refute it at one input. -/
def zoneNamesWrong : ChangeSpec := { name := "zoneNames", fn := fun _ => fun
  | [] => { results := [.lit (.bool false)], args := [] }
  | _ => none }
def ZoneNamesWrongFalsely : Prop := zoneNamesRow.holds Try.pinned (OpenSpec.ofChange zoneNamesWrong)

/-- 'hailstonelaw11.ZoneTruth': WHATEVER THE INPUT: true; the input reads as it did. -/
def zoneTruthSpec : ChangeSpec := { name := "zoneTruth", fn := fun _ => fun
  | [d1, d2, d3] => { results := [.lit (.bool true)], args := [d1, d2, d3] }
  | _ => none }
def zoneTruthRow : OpenClaim := { program := "ytelnonfenpjjcaa", sum := "463b5335a2400a031f5ad5362732368ed9c67f07305ccd30af2ef5e5df9a2c81", func := "hailstone/hailstonelaw11.ZoneTruth", spec := "zoneTruth", unfollowed := true, recurses := true, plainKeys := false, apart := false }
def ZoneTruthSaid : Prop := zoneTruthRow.holds Try.pinned (OpenSpec.ofChange zoneTruthSpec)

/-- ITS FALSE NEIGHBOUR: 'it returns false'. Refute it at one input. -/
def zoneTruthWrong : ChangeSpec := { name := "zoneTruth", fn := fun _ => fun
  | [d1, d2, d3] => { results := [.lit (.bool false)], args := [d1, d2, d3] }
  | _ => none }
def ZoneTruthWrongFalsely : Prop := zoneTruthRow.holds Try.pinned (OpenSpec.ofChange zoneTruthWrong)

/- THE SECOND FORM. 'bulk': how many values and letters a reading holds, each counted each time it is reached (what is shared counts as often as it is met; a slice's spare places count too). A statement '..UptoSaid' is the law's where the arguments, and the package variables that the reading takes, are together of bulk at most 1048576: NARROWER than '..Said'. Prove '..Said' where nothing that the law and all that it calls make is longer than what came in: it says more and counts as full. Else prove '..UptoSaid'. A law counts once. -/
mutual
def uptoBulk {H : Type} : DataW H → Nat
  | .lit (.string bytes) => bytes.length + 1
  | .lit _ => 1
  | .nil => 1
  | .ptr d => uptoBulk d + 1
  | .slice elems spare => uptoBulkAll elems + uptoBulkAll spare + 1
  | .agg parts => uptoBulkAll parts + 1
  | .iface _ d => uptoBulk d + 1
  | .map entries => uptoBulkEntries entries + 1
  | .held _ => 1
def uptoBulkAll {H : Type} : List (DataW H) → Nat
  | [] => 0
  | d :: r => uptoBulk d + uptoBulkAll r
def uptoBulkEntries {H : Type} : List (Lit × DataW H) → Nat
  | [] => 0
  | x :: r => uptoBulkEntry x + uptoBulkEntries r
def uptoBulkEntry {H : Type} : Lit × DataW H → Nat
  | (.string bytes, d) => bytes.length + uptoBulk d + 1
  | (_, d) => uptoBulk d + 1
 end
def uptoSmall : (H : Type) → List (DataW H) → Bool := fun _ ds => decide (uptoBulkAll ds ≤ 1048576)
def OpenSpec.upto (s : _root_.Go.ChangeSpec) : _root_.Go.OpenSpec := { _root_.Go.OpenSpec.ofChange s with cond := some uptoSmall }

/-- 'hailstonelaw11.ZoneReaches', WHERE WHAT IT READS IS OF BULK AT MOST 1048576: true; the input reads as it did. -/
def zoneReachesUptoRow : OpenClaim := { program := "ytelnonfenpjjcaa", sum := "463b5335a2400a031f5ad5362732368ed9c67f07305ccd30af2ef5e5df9a2c81", func := "hailstone/hailstonelaw11.ZoneReaches", spec := "zoneReaches", unfollowed := true, recurses := true, plainKeys := false, apart := false, narrowed := true }
def ZoneReachesUptoSaid : Prop := zoneReachesUptoRow.holds Try.pinned (OpenSpec.upto zoneReachesSpec)

/-- 'hailstonelaw11.ZoneNexts', WHERE WHAT IT READS IS OF BULK AT MOST 1048576: true; the input reads as it did. -/
def zoneNextsUptoRow : OpenClaim := { program := "ytelnonfenpjjcaa", sum := "463b5335a2400a031f5ad5362732368ed9c67f07305ccd30af2ef5e5df9a2c81", func := "hailstone/hailstonelaw11.ZoneNexts", spec := "zoneNexts", unfollowed := true, recurses := true, plainKeys := false, apart := false, narrowed := true }
def ZoneNextsUptoSaid : Prop := zoneNextsUptoRow.holds Try.pinned (OpenSpec.upto zoneNextsSpec)

/-- 'hailstonelaw11.ZoneFalse', WHERE WHAT IT READS IS OF BULK AT MOST 1048576: true; the input reads as it did. -/
def zoneFalseUptoRow : OpenClaim := { program := "ytelnonfenpjjcaa", sum := "463b5335a2400a031f5ad5362732368ed9c67f07305ccd30af2ef5e5df9a2c81", func := "hailstone/hailstonelaw11.ZoneFalse", spec := "zoneFalse", unfollowed := true, recurses := true, plainKeys := false, apart := false, narrowed := true }
def ZoneFalseUptoSaid : Prop := zoneFalseUptoRow.holds Try.pinned (OpenSpec.upto zoneFalseSpec)

/-- 'hailstonelaw11.ZoneSure', WHERE WHAT IT READS IS OF BULK AT MOST 1048576: true; the input reads as it did. -/
def zoneSureUptoRow : OpenClaim := { program := "ytelnonfenpjjcaa", sum := "463b5335a2400a031f5ad5362732368ed9c67f07305ccd30af2ef5e5df9a2c81", func := "hailstone/hailstonelaw11.ZoneSure", spec := "zoneSure", unfollowed := true, recurses := true, plainKeys := false, apart := false, narrowed := true }
def ZoneSureUptoSaid : Prop := zoneSureUptoRow.holds Try.pinned (OpenSpec.upto zoneSureSpec)

/-- 'hailstonelaw11.ZoneWorse', WHERE WHAT IT READS IS OF BULK AT MOST 1048576: true; the input reads as it did. -/
def zoneWorseUptoRow : OpenClaim := { program := "ytelnonfenpjjcaa", sum := "463b5335a2400a031f5ad5362732368ed9c67f07305ccd30af2ef5e5df9a2c81", func := "hailstone/hailstonelaw11.ZoneWorse", spec := "zoneWorse", unfollowed := true, recurses := true, plainKeys := false, apart := false, narrowed := true }
def ZoneWorseUptoSaid : Prop := zoneWorseUptoRow.holds Try.pinned (OpenSpec.upto zoneWorseSpec)

/-- 'hailstonelaw11.ZoneWider', WHERE WHAT IT READS IS OF BULK AT MOST 1048576: true; the input reads as it did. -/
def zoneWiderUptoRow : OpenClaim := { program := "ytelnonfenpjjcaa", sum := "463b5335a2400a031f5ad5362732368ed9c67f07305ccd30af2ef5e5df9a2c81", func := "hailstone/hailstonelaw11.ZoneWider", spec := "zoneWider", unfollowed := true, recurses := true, plainKeys := false, apart := false, narrowed := true }
def ZoneWiderUptoSaid : Prop := zoneWiderUptoRow.holds Try.pinned (OpenSpec.upto zoneWiderSpec)

/-- 'hailstonelaw11.ZoneLeast', WHERE WHAT IT READS IS OF BULK AT MOST 1048576: true; the input reads as it did. -/
def zoneLeastUptoRow : OpenClaim := { program := "ytelnonfenpjjcaa", sum := "463b5335a2400a031f5ad5362732368ed9c67f07305ccd30af2ef5e5df9a2c81", func := "hailstone/hailstonelaw11.ZoneLeast", spec := "zoneLeast", unfollowed := true, recurses := true, plainKeys := false, apart := false, narrowed := true }
def ZoneLeastUptoSaid : Prop := zoneLeastUptoRow.holds Try.pinned (OpenSpec.upto zoneLeastSpec)

/-- 'hailstonelaw11.ZonePrefix', WHERE WHAT IT READS IS OF BULK AT MOST 1048576: true; the input reads as it did. -/
def zonePrefixUptoRow : OpenClaim := { program := "ytelnonfenpjjcaa", sum := "463b5335a2400a031f5ad5362732368ed9c67f07305ccd30af2ef5e5df9a2c81", func := "hailstone/hailstonelaw11.ZonePrefix", spec := "zonePrefix", unfollowed := true, recurses := true, plainKeys := false, apart := false, narrowed := true }
def ZonePrefixUptoSaid : Prop := zonePrefixUptoRow.holds Try.pinned (OpenSpec.upto zonePrefixSpec)

/-- 'hailstonelaw11.ZoneIdle', WHERE WHAT IT READS IS OF BULK AT MOST 1048576: true; the input reads as it did. -/
def zoneIdleUptoRow : OpenClaim := { program := "ytelnonfenpjjcaa", sum := "463b5335a2400a031f5ad5362732368ed9c67f07305ccd30af2ef5e5df9a2c81", func := "hailstone/hailstonelaw11.ZoneIdle", spec := "zoneIdle", unfollowed := true, recurses := true, plainKeys := false, apart := false, narrowed := true }
def ZoneIdleUptoSaid : Prop := zoneIdleUptoRow.holds Try.pinned (OpenSpec.upto zoneIdleSpec)

/-- 'hailstonelaw11.ZoneScaled', WHERE WHAT IT READS IS OF BULK AT MOST 1048576: true; the input reads as it did. -/
def zoneScaledUptoRow : OpenClaim := { program := "ytelnonfenpjjcaa", sum := "463b5335a2400a031f5ad5362732368ed9c67f07305ccd30af2ef5e5df9a2c81", func := "hailstone/hailstonelaw11.ZoneScaled", spec := "zoneScaled", unfollowed := true, recurses := true, plainKeys := false, apart := false, narrowed := true }
def ZoneScaledUptoSaid : Prop := zoneScaledUptoRow.holds Try.pinned (OpenSpec.upto zoneScaledSpec)

/-- 'hailstonelaw11.ZoneRest', WHERE WHAT IT READS IS OF BULK AT MOST 1048576: true; the input reads as it did. -/
def zoneRestUptoRow : OpenClaim := { program := "ytelnonfenpjjcaa", sum := "463b5335a2400a031f5ad5362732368ed9c67f07305ccd30af2ef5e5df9a2c81", func := "hailstone/hailstonelaw11.ZoneRest", spec := "zoneRest", unfollowed := true, recurses := true, plainKeys := false, apart := false, narrowed := true }
def ZoneRestUptoSaid : Prop := zoneRestUptoRow.holds Try.pinned (OpenSpec.upto zoneRestSpec)

/-- 'hailstonelaw11.ZonePlays', WHERE WHAT IT READS IS OF BULK AT MOST 1048576: true; the input reads as it did. -/
def zonePlaysUptoRow : OpenClaim := { program := "ytelnonfenpjjcaa", sum := "463b5335a2400a031f5ad5362732368ed9c67f07305ccd30af2ef5e5df9a2c81", func := "hailstone/hailstonelaw11.ZonePlays", spec := "zonePlays", unfollowed := true, recurses := true, plainKeys := false, apart := false, narrowed := true }
def ZonePlaysUptoSaid : Prop := zonePlaysUptoRow.holds Try.pinned (OpenSpec.upto zonePlaysSpec)

/-- 'hailstonelaw11.ZoneNames', WHERE WHAT IT READS IS OF BULK AT MOST 1048576: true; the input reads as it did. -/
def zoneNamesUptoRow : OpenClaim := { program := "ytelnonfenpjjcaa", sum := "463b5335a2400a031f5ad5362732368ed9c67f07305ccd30af2ef5e5df9a2c81", func := "hailstone/hailstonelaw11.ZoneNames", spec := "zoneNames", unfollowed := true, recurses := true, plainKeys := false, apart := false, narrowed := true }
def ZoneNamesUptoSaid : Prop := zoneNamesUptoRow.holds Try.pinned (OpenSpec.upto zoneNamesSpec)

/-- 'hailstonelaw11.ZoneTruth', WHERE WHAT IT READS IS OF BULK AT MOST 1048576: true; the input reads as it did. -/
def zoneTruthUptoRow : OpenClaim := { program := "ytelnonfenpjjcaa", sum := "463b5335a2400a031f5ad5362732368ed9c67f07305ccd30af2ef5e5df9a2c81", func := "hailstone/hailstonelaw11.ZoneTruth", spec := "zoneTruth", unfollowed := true, recurses := true, plainKeys := false, apart := false, narrowed := true }
def ZoneTruthUptoSaid : Prop := zoneTruthUptoRow.holds Try.pinned (OpenSpec.upto zoneTruthSpec)

end Rows
end Go.Proofs.Ytelnonfenpjjcaa
