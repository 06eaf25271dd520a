/-
  No cell of these rows narrows 'for every input' (looked for: loops, veiled, ifaces, maps, wideKeys, modest, calm, conditions, laid).
  DERIVED. THE GIVEN ROWS OF THIS SEAT. 3 by the template 'for every input the law returns true; each argument reads behind the call as it read before'; 0 by the template 'total and deterministic' (their statements: YtjadiajfbflghaaGreatTotals.lean).
  GIVEN WITH THE SEED: the statements are not yours to turn. If you find one false, say at which input.
  Laid BY PROGRAM, IN A SANDBOX (cutbox-rows.mjs): the forced cells as the released guide's own fill.sh prints them over the translation e257dc1d0dd82fed… (all of the seat's roots in one cut). By AI agents, Wed Nov 11 2026. No macro, syntax, notation, axiom, sorry.
-/
import Derived.Test.YtjadiajfbflghaaGreatChecked
import GoSem.Claim
import GoSem.ClaimJoined
import GoSem.ClaimMapViews
import Derived.JoinedTies
import Derived.KernelRfl
namespace Go.Proofs.YtjadiajfbflghaaGreat
/- THE CELL 'sum', in the pinned program and in every row, IS THE sha256 OF THE DUMP (.gsa) THAT YtjadiajfbflghaaGreatProg.lean LOADS. Nothing in Lean hashes anything: it is a label: what it is worth is what the hold of that sum in a sandbox is worth. -/
noncomputable def Tryz.pinned : Pinned := { name := "ytjadiajfbflghaagreat", sum := "e257dc1d0dd82fed8cab3d8676693b3867a04e1ac17e7e02e1574330f34d188c", checked := Tryz.checked }
namespace Rows
def none {H : Type} : Left H := { results := [], args := [] }

/-- 'hailstonetop.TopAwarded': WHATEVER THE INPUT: true; the input reads as it did. -/
def topAwardedSpec : ChangeSpec := { name := "topAwarded", fn := fun _ => fun
  | [d1, d2, d3] => { results := [.lit (.bool true)], args := [d1, d2, d3] }
  | _ => none }
def topAwardedRow : OpenClaim := { program := "ytjadiajfbflghaagreat", sum := "e257dc1d0dd82fed8cab3d8676693b3867a04e1ac17e7e02e1574330f34d188c", func := "hailstone/hailstonetop.TopAwarded", spec := "topAwarded", unfollowed := true, recurses := true, plainKeys := false, apart := false }
def TopAwardedSaid : Prop := topAwardedRow.holds Tryz.pinned (OpenSpec.ofChange topAwardedSpec)

/-- ITS FALSE NEIGHBOUR: 'it returns false'. Refute it at one input. -/
def topAwardedWrong : ChangeSpec := { name := "topAwarded", fn := fun _ => fun
  | [d1, d2, d3] => { results := [.lit (.bool false)], args := [d1, d2, d3] }
  | _ => none }
def TopAwardedWrongFalsely : Prop := topAwardedRow.holds Tryz.pinned (OpenSpec.ofChange topAwardedWrong)

/-- 'hailstonetop.TopFramed': WHATEVER THE INPUT: true; the input reads as it did. -/
def topFramedSpec : ChangeSpec := { name := "topFramed", fn := fun _ => fun
  | [d1, d2, d3, d4, d5, d6] => { results := [.lit (.bool true)], args := [d1, d2, d3, d4, d5, d6] }
  | _ => none }
def topFramedRow : OpenClaim := { program := "ytjadiajfbflghaagreat", sum := "e257dc1d0dd82fed8cab3d8676693b3867a04e1ac17e7e02e1574330f34d188c", func := "hailstone/hailstonetop.TopFramed", spec := "topFramed", unfollowed := true, recurses := true, plainKeys := false, apart := false }
def TopFramedSaid : Prop := topFramedRow.holds Tryz.pinned (OpenSpec.ofChange topFramedSpec)

/-- ITS FALSE NEIGHBOUR: 'it returns false'. Refute it at one input. -/
def topFramedWrong : ChangeSpec := { name := "topFramed", fn := fun _ => fun
  | [d1, d2, d3, d4, d5, d6] => { results := [.lit (.bool false)], args := [d1, d2, d3, d4, d5, d6] }
  | _ => none }
def TopFramedWrongFalsely : Prop := topFramedRow.holds Tryz.pinned (OpenSpec.ofChange topFramedWrong)

/-- 'hailstonetop.TopInsured': WHATEVER THE INPUT: true; the input reads as it did. -/
def topInsuredSpec : ChangeSpec := { name := "topInsured", fn := fun _ => fun
  | [d1, d2, d3] => { results := [.lit (.bool true)], args := [d1, d2, d3] }
  | _ => none }
def topInsuredRow : OpenClaim := { program := "ytjadiajfbflghaagreat", sum := "e257dc1d0dd82fed8cab3d8676693b3867a04e1ac17e7e02e1574330f34d188c", func := "hailstone/hailstonetop.TopInsured", spec := "topInsured", unfollowed := true, recurses := true, plainKeys := false, apart := false }
def TopInsuredSaid : Prop := topInsuredRow.holds Tryz.pinned (OpenSpec.ofChange topInsuredSpec)

/-- ITS FALSE NEIGHBOUR: 'it returns false'. Refute it at one input. -/
def topInsuredWrong : ChangeSpec := { name := "topInsured", fn := fun _ => fun
  | [d1, d2, d3] => { results := [.lit (.bool false)], args := [d1, d2, d3] }
  | _ => none }
def TopInsuredWrongFalsely : Prop := topInsuredRow.holds Tryz.pinned (OpenSpec.ofChange topInsuredWrong)

/- THE SECOND FORM. 'bulk': how many values and letters a reading holds, each counted each time it is reached (what is shared counts as often as it is met; a slice's spare places count too). A statement '..UptoSaid' is the law's where the arguments, and the package variables that the reading takes, are together of bulk at most 1048576: NARROWER than '..Said'. Prove '..Said' where nothing that the law and all that it calls make is longer than what came in: it says more and counts as full. Else prove '..UptoSaid'. A law counts once. -/
mutual
def uptoBulk {H : Type} : DataW H → Nat
  | .lit (.string bytes) => bytes.length + 1
  | .lit _ => 1
  | .nil => 1
  | .ptr d => uptoBulk d + 1
  | .slice elems spare => uptoBulkAll elems + uptoBulkAll spare + 1
  | .agg parts => uptoBulkAll parts + 1
  | .iface _ d => uptoBulk d + 1
  | .map entries => uptoBulkEntries entries + 1
  | .held _ => 1
def uptoBulkAll {H : Type} : List (DataW H) → Nat
  | [] => 0
  | d :: r => uptoBulk d + uptoBulkAll r
def uptoBulkEntries {H : Type} : List (Lit × DataW H) → Nat
  | [] => 0
  | x :: r => uptoBulkEntry x + uptoBulkEntries r
def uptoBulkEntry {H : Type} : Lit × DataW H → Nat
  | (.string bytes, d) => bytes.length + uptoBulk d + 1
  | (_, d) => uptoBulk d + 1
 end
def uptoSmall : (H : Type) → List (DataW H) → Bool := fun _ ds => decide (uptoBulkAll ds ≤ 1048576)
def OpenSpec.upto (s : _root_.Go.ChangeSpec) : _root_.Go.OpenSpec := { _root_.Go.OpenSpec.ofChange s with cond := some uptoSmall }

/-- 'hailstonetop.TopAwarded', WHERE WHAT IT READS IS OF BULK AT MOST 1048576: true; the input reads as it did. -/
def topAwardedUptoRow : OpenClaim := { program := "ytjadiajfbflghaagreat", sum := "e257dc1d0dd82fed8cab3d8676693b3867a04e1ac17e7e02e1574330f34d188c", func := "hailstone/hailstonetop.TopAwarded", spec := "topAwarded", unfollowed := true, recurses := true, plainKeys := false, apart := false, narrowed := true }
def TopAwardedUptoSaid : Prop := topAwardedUptoRow.holds Tryz.pinned (OpenSpec.upto topAwardedSpec)

/-- 'hailstonetop.TopFramed', WHERE WHAT IT READS IS OF BULK AT MOST 1048576: true; the input reads as it did. -/
def topFramedUptoRow : OpenClaim := { program := "ytjadiajfbflghaagreat", sum := "e257dc1d0dd82fed8cab3d8676693b3867a04e1ac17e7e02e1574330f34d188c", func := "hailstone/hailstonetop.TopFramed", spec := "topFramed", unfollowed := true, recurses := true, plainKeys := false, apart := false, narrowed := true }
def TopFramedUptoSaid : Prop := topFramedUptoRow.holds Tryz.pinned (OpenSpec.upto topFramedSpec)

/-- 'hailstonetop.TopInsured', WHERE WHAT IT READS IS OF BULK AT MOST 1048576: true; the input reads as it did. -/
def topInsuredUptoRow : OpenClaim := { program := "ytjadiajfbflghaagreat", sum := "e257dc1d0dd82fed8cab3d8676693b3867a04e1ac17e7e02e1574330f34d188c", func := "hailstone/hailstonetop.TopInsured", spec := "topInsured", unfollowed := true, recurses := true, plainKeys := false, apart := false, narrowed := true }
def TopInsuredUptoSaid : Prop := topInsuredUptoRow.holds Tryz.pinned (OpenSpec.upto topInsuredSpec)

end Rows
end Go.Proofs.YtjadiajfbflghaaGreat
