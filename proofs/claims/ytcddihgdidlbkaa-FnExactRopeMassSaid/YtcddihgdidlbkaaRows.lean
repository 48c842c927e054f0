/-
  No cell of these rows narrows 'for every input' (looked for: loops, veiled, ifaces, maps, wideKeys, modest, calm, conditions, laid).
  DERIVED. THE GIVEN ROWS OF THIS SEAT. 12 by the template 'for every input the law returns true; each argument reads behind the call as it read before'; 0 by the template 'total and deterministic' (their statements: YtcddihgdidlbkaaTotals.lean).
  GIVEN WITH THE SEED: the statements are not yours to turn. If you find one false, say at which input.
  Laid BY PROGRAM, IN A SANDBOX (cutbox-rows.mjs): the forced cells as the released guide's own fill.sh prints them over the translation 54a89147a179f2d1… (all of the seat's roots in one cut). By AI agents, Wed Nov 11 2026. No macro, syntax, notation, axiom, sorry.
-/
import Derived.Test.YtcddihgdidlbkaaChecked
import GoSem.Claim
import GoSem.ClaimJoined
import GoSem.ClaimMapViews
import Derived.JoinedTies
import Derived.KernelRfl
namespace Go.Proofs.Ytcddihgdidlbkaa
/- THE CELL 'sum', in the pinned program and in every row, IS THE sha256 OF THE DUMP (.gsa) THAT YtcddihgdidlbkaaProg.lean LOADS. Nothing in Lean hashes anything: it is a label: what it is worth is what the hold of that sum in a sandbox is worth. -/
noncomputable def Try.pinned : Pinned := { name := "ytcddihgdidlbkaa", sum := "54a89147a179f2d1ed8b86325d578291288ed067b4e2d21200838073240a9f43", checked := Try.checked }
namespace Rows
def none {H : Type} : Left H := { results := [], args := [] }

/-- 'laws.FnExactWeatherName': WHATEVER THE INPUT: true; the input reads as it did. -/
def fnExactWeatherNameSpec : ChangeSpec := { name := "fnExactWeatherName", fn := fun _ => fun
  | [d] => { results := [.lit (.bool true)], args := [d] }
  | _ => none }
def fnExactWeatherNameRow : OpenClaim := { program := "ytcddihgdidlbkaa", sum := "54a89147a179f2d1ed8b86325d578291288ed067b4e2d21200838073240a9f43", func := "loop.example/g01057/laws.FnExactWeatherName", spec := "fnExactWeatherName", apart := false }
def FnExactWeatherNameSaid : Prop := fnExactWeatherNameRow.holds Try.pinned (OpenSpec.ofChange fnExactWeatherNameSpec)

/-- ITS FALSE NEIGHBOUR: 'it returns false'. Refute it at one input. -/
def fnExactWeatherNameWrong : ChangeSpec := { name := "fnExactWeatherName", fn := fun _ => fun
  | [d] => { results := [.lit (.bool false)], args := [d] }
  | _ => none }
def FnExactWeatherNameWrongFalsely : Prop := fnExactWeatherNameRow.holds Try.pinned (OpenSpec.ofChange fnExactWeatherNameWrong)

/-- 'laws.FnExactValidMotor': WHATEVER THE INPUT: true; the input reads as it did. -/
def fnExactValidMotorSpec : ChangeSpec := { name := "fnExactValidMotor", fn := fun _ => fun
  | [d] => { results := [.lit (.bool true)], args := [d] }
  | _ => none }
def fnExactValidMotorRow : OpenClaim := { program := "ytcddihgdidlbkaa", sum := "54a89147a179f2d1ed8b86325d578291288ed067b4e2d21200838073240a9f43", func := "loop.example/g01057/laws.FnExactValidMotor", spec := "fnExactValidMotor", apart := false }
def FnExactValidMotorSaid : Prop := fnExactValidMotorRow.holds Try.pinned (OpenSpec.ofChange fnExactValidMotorSpec)

/-- ITS FALSE NEIGHBOUR: 'it returns false'. Refute it at one input. -/
def fnExactValidMotorWrong : ChangeSpec := { name := "fnExactValidMotor", fn := fun _ => fun
  | [d] => { results := [.lit (.bool false)], args := [d] }
  | _ => none }
def FnExactValidMotorWrongFalsely : Prop := fnExactValidMotorRow.holds Try.pinned (OpenSpec.ofChange fnExactValidMotorWrong)

/-- 'laws.FnExactValidRope': WHATEVER THE INPUT: true; the input reads as it did. -/
def fnExactValidRopeSpec : ChangeSpec := { name := "fnExactValidRope", fn := fun _ => fun
  | [d] => { results := [.lit (.bool true)], args := [d] }
  | _ => none }
def fnExactValidRopeRow : OpenClaim := { program := "ytcddihgdidlbkaa", sum := "54a89147a179f2d1ed8b86325d578291288ed067b4e2d21200838073240a9f43", func := "loop.example/g01057/laws.FnExactValidRope", spec := "fnExactValidRope", apart := false }
def FnExactValidRopeSaid : Prop := fnExactValidRopeRow.holds Try.pinned (OpenSpec.ofChange fnExactValidRopeSpec)

/-- ITS FALSE NEIGHBOUR: 'it returns false'. Refute it at one input. -/
def fnExactValidRopeWrong : ChangeSpec := { name := "fnExactValidRope", fn := fun _ => fun
  | [d] => { results := [.lit (.bool false)], args := [d] }
  | _ => none }
def FnExactValidRopeWrongFalsely : Prop := fnExactValidRopeRow.holds Try.pinned (OpenSpec.ofChange fnExactValidRopeWrong)

/-- 'laws.FnExactValidProfile': WHATEVER THE INPUT: true; the input reads as it did. -/
def fnExactValidProfileSpec : ChangeSpec := { name := "fnExactValidProfile", fn := fun _ => fun
  | [d] => { results := [.lit (.bool true)], args := [d] }
  | _ => none }
def fnExactValidProfileRow : OpenClaim := { program := "ytcddihgdidlbkaa", sum := "54a89147a179f2d1ed8b86325d578291288ed067b4e2d21200838073240a9f43", func := "loop.example/g01057/laws.FnExactValidProfile", spec := "fnExactValidProfile", apart := false }
def FnExactValidProfileSaid : Prop := fnExactValidProfileRow.holds Try.pinned (OpenSpec.ofChange fnExactValidProfileSpec)

/-- ITS FALSE NEIGHBOUR: 'it returns false'. Refute it at one input. -/
def fnExactValidProfileWrong : ChangeSpec := { name := "fnExactValidProfile", fn := fun _ => fun
  | [d] => { results := [.lit (.bool false)], args := [d] }
  | _ => none }
def FnExactValidProfileWrongFalsely : Prop := fnExactValidProfileRow.holds Try.pinned (OpenSpec.ofChange fnExactValidProfileWrong)

/-- 'laws.FnExactReserveOf': WHATEVER THE INPUT: true; the input reads as it did. -/
def fnExactReserveOfSpec : ChangeSpec := { name := "fnExactReserveOf", fn := fun _ => fun
  | [d1, d2] => { results := [.lit (.bool true)], args := [d1, d2] }
  | _ => none }
def fnExactReserveOfRow : OpenClaim := { program := "ytcddihgdidlbkaa", sum := "54a89147a179f2d1ed8b86325d578291288ed067b4e2d21200838073240a9f43", func := "loop.example/g01057/laws.FnExactReserveOf", spec := "fnExactReserveOf", apart := false }
def FnExactReserveOfSaid : Prop := fnExactReserveOfRow.holds Try.pinned (OpenSpec.ofChange fnExactReserveOfSpec)

/-- ITS FALSE NEIGHBOUR: 'it returns false'. Refute it at one input. -/
def fnExactReserveOfWrong : ChangeSpec := { name := "fnExactReserveOf", fn := fun _ => fun
  | [d1, d2] => { results := [.lit (.bool false)], args := [d1, d2] }
  | _ => none }
def FnExactReserveOfWrongFalsely : Prop := fnExactReserveOfRow.holds Try.pinned (OpenSpec.ofChange fnExactReserveOfWrong)

/-- 'laws.FnExactPullFor': WHATEVER THE INPUT: true; the input reads as it did. -/
def fnExactPullForSpec : ChangeSpec := { name := "fnExactPullFor", fn := fun _ => fun
  | [d1, d2] => { results := [.lit (.bool true)], args := [d1, d2] }
  | _ => none }
def fnExactPullForRow : OpenClaim := { program := "ytcddihgdidlbkaa", sum := "54a89147a179f2d1ed8b86325d578291288ed067b4e2d21200838073240a9f43", func := "loop.example/g01057/laws.FnExactPullFor", spec := "fnExactPullFor", apart := false }
def FnExactPullForSaid : Prop := fnExactPullForRow.holds Try.pinned (OpenSpec.ofChange fnExactPullForSpec)

/-- ITS FALSE NEIGHBOUR: 'it returns false'. Refute it at one input. -/
def fnExactPullForWrong : ChangeSpec := { name := "fnExactPullFor", fn := fun _ => fun
  | [d1, d2] => { results := [.lit (.bool false)], args := [d1, d2] }
  | _ => none }
def FnExactPullForWrongFalsely : Prop := fnExactPullForRow.holds Try.pinned (OpenSpec.ofChange fnExactPullForWrong)

/-- 'laws.FnExactRopeMass': WHATEVER THE INPUT: true; the input reads as it did. -/
def fnExactRopeMassSpec : ChangeSpec := { name := "fnExactRopeMass", fn := fun _ => fun
  | [d] => { results := [.lit (.bool true)], args := [d] }
  | _ => none }
def fnExactRopeMassRow : OpenClaim := { program := "ytcddihgdidlbkaa", sum := "54a89147a179f2d1ed8b86325d578291288ed067b4e2d21200838073240a9f43", func := "loop.example/g01057/laws.FnExactRopeMass", spec := "fnExactRopeMass", apart := false }
def FnExactRopeMassSaid : Prop := fnExactRopeMassRow.holds Try.pinned (OpenSpec.ofChange fnExactRopeMassSpec)

/-- ITS FALSE NEIGHBOUR: 'it returns false'. Refute it at one input. -/
def fnExactRopeMassWrong : ChangeSpec := { name := "fnExactRopeMass", fn := fun _ => fun
  | [d] => { results := [.lit (.bool false)], args := [d] }
  | _ => none }
def FnExactRopeMassWrongFalsely : Prop := fnExactRopeMassRow.holds Try.pinned (OpenSpec.ofChange fnExactRopeMassWrong)

/-- 'laws.FnExactCutRope': WHATEVER THE INPUT: true; the input reads as it did. -/
def fnExactCutRopeSpec : ChangeSpec := { name := "fnExactCutRope", fn := fun _ => fun
  | [d1, d2] => { results := [.lit (.bool true)], args := [d1, d2] }
  | _ => none }
def fnExactCutRopeRow : OpenClaim := { program := "ytcddihgdidlbkaa", sum := "54a89147a179f2d1ed8b86325d578291288ed067b4e2d21200838073240a9f43", func := "loop.example/g01057/laws.FnExactCutRope", spec := "fnExactCutRope", apart := false }
def FnExactCutRopeSaid : Prop := fnExactCutRopeRow.holds Try.pinned (OpenSpec.ofChange fnExactCutRopeSpec)

/-- ITS FALSE NEIGHBOUR: 'it returns false'. Refute it at one input. -/
def fnExactCutRopeWrong : ChangeSpec := { name := "fnExactCutRope", fn := fun _ => fun
  | [d1, d2] => { results := [.lit (.bool false)], args := [d1, d2] }
  | _ => none }
def FnExactCutRopeWrongFalsely : Prop := fnExactCutRopeRow.holds Try.pinned (OpenSpec.ofChange fnExactCutRopeWrong)

/-- 'laws.FnExactStretchOf': WHATEVER THE INPUT: true; the input reads as it did. -/
def fnExactStretchOfSpec : ChangeSpec := { name := "fnExactStretchOf", fn := fun _ => fun
  | [d1, d2] => { results := [.lit (.bool true)], args := [d1, d2] }
  | _ => none }
def fnExactStretchOfRow : OpenClaim := { program := "ytcddihgdidlbkaa", sum := "54a89147a179f2d1ed8b86325d578291288ed067b4e2d21200838073240a9f43", func := "loop.example/g01057/laws.FnExactStretchOf", spec := "fnExactStretchOf", apart := false }
def FnExactStretchOfSaid : Prop := fnExactStretchOfRow.holds Try.pinned (OpenSpec.ofChange fnExactStretchOfSpec)

/-- ITS FALSE NEIGHBOUR: 'it returns false'. Refute it at one input. -/
def fnExactStretchOfWrong : ChangeSpec := { name := "fnExactStretchOf", fn := fun _ => fun
  | [d1, d2] => { results := [.lit (.bool false)], args := [d1, d2] }
  | _ => none }
def FnExactStretchOfWrongFalsely : Prop := fnExactStretchOfRow.holds Try.pinned (OpenSpec.ofChange fnExactStretchOfWrong)

/-- 'laws.FnExactSpliceLoss': WHATEVER THE INPUT: true; the input reads as it did. -/
def fnExactSpliceLossSpec : ChangeSpec := { name := "fnExactSpliceLoss", fn := fun _ => fun
  | [d1, d2] => { results := [.lit (.bool true)], args := [d1, d2] }
  | _ => none }
def fnExactSpliceLossRow : OpenClaim := { program := "ytcddihgdidlbkaa", sum := "54a89147a179f2d1ed8b86325d578291288ed067b4e2d21200838073240a9f43", func := "loop.example/g01057/laws.FnExactSpliceLoss", spec := "fnExactSpliceLoss", apart := false }
def FnExactSpliceLossSaid : Prop := fnExactSpliceLossRow.holds Try.pinned (OpenSpec.ofChange fnExactSpliceLossSpec)

/-- ITS FALSE NEIGHBOUR: 'it returns false'. Refute it at one input. -/
def fnExactSpliceLossWrong : ChangeSpec := { name := "fnExactSpliceLoss", fn := fun _ => fun
  | [d1, d2] => { results := [.lit (.bool false)], args := [d1, d2] }
  | _ => none }
def FnExactSpliceLossWrongFalsely : Prop := fnExactSpliceLossRow.holds Try.pinned (OpenSpec.ofChange fnExactSpliceLossWrong)

/-- 'laws.FnExactPowerNeeded': WHATEVER THE INPUT: true; the input reads as it did. -/
def fnExactPowerNeededSpec : ChangeSpec := { name := "fnExactPowerNeeded", fn := fun _ => fun
  | [d1, d2, d3] => { results := [.lit (.bool true)], args := [d1, d2, d3] }
  | _ => none }
def fnExactPowerNeededRow : OpenClaim := { program := "ytcddihgdidlbkaa", sum := "54a89147a179f2d1ed8b86325d578291288ed067b4e2d21200838073240a9f43", func := "loop.example/g01057/laws.FnExactPowerNeeded", spec := "fnExactPowerNeeded", apart := false }
def FnExactPowerNeededSaid : Prop := fnExactPowerNeededRow.holds Try.pinned (OpenSpec.ofChange fnExactPowerNeededSpec)

/-- ITS FALSE NEIGHBOUR: 'it returns false'. Refute it at one input. -/
def fnExactPowerNeededWrong : ChangeSpec := { name := "fnExactPowerNeeded", fn := fun _ => fun
  | [d1, d2, d3] => { results := [.lit (.bool false)], args := [d1, d2, d3] }
  | _ => none }
def FnExactPowerNeededWrongFalsely : Prop := fnExactPowerNeededRow.holds Try.pinned (OpenSpec.ofChange fnExactPowerNeededWrong)

/-- 'laws.FnExactGripOf': WHATEVER THE INPUT: true; the input reads as it did. -/
def fnExactGripOfSpec : ChangeSpec := { name := "fnExactGripOf", fn := fun _ => fun
  | [d] => { results := [.lit (.bool true)], args := [d] }
  | _ => none }
def fnExactGripOfRow : OpenClaim := { program := "ytcddihgdidlbkaa", sum := "54a89147a179f2d1ed8b86325d578291288ed067b4e2d21200838073240a9f43", func := "loop.example/g01057/laws.FnExactGripOf", spec := "fnExactGripOf", apart := false }
def FnExactGripOfSaid : Prop := fnExactGripOfRow.holds Try.pinned (OpenSpec.ofChange fnExactGripOfSpec)

/-- ITS FALSE NEIGHBOUR: 'it returns false'. Refute it at one input. -/
def fnExactGripOfWrong : ChangeSpec := { name := "fnExactGripOf", fn := fun _ => fun
  | [d] => { results := [.lit (.bool false)], args := [d] }
  | _ => none }
def FnExactGripOfWrongFalsely : Prop := fnExactGripOfRow.holds Try.pinned (OpenSpec.ofChange fnExactGripOfWrong)

/- THE SECOND FORM. 'bulk': how many values and letters a reading holds, each counted each time it is reached (what is shared counts as often as it is met; a slice's spare places count too). A statement '..UptoSaid' is the law's where the arguments, and the package variables that the reading takes, are together of bulk at most 1048576: NARROWER than '..Said'. Prove '..Said' where nothing that the law and all that it calls make is longer than what came in: it says more and counts as full. Else prove '..UptoSaid'. A law counts once. -/
mutual
def uptoBulk {H : Type} : DataW H → Nat
  | .lit (.string bytes) => bytes.length + 1
  | .lit _ => 1
  | .nil => 1
  | .ptr d => uptoBulk d + 1
  | .slice elems spare => uptoBulkAll elems + uptoBulkAll spare + 1
  | .agg parts => uptoBulkAll parts + 1
  | .iface _ d => uptoBulk d + 1
  | .map entries => uptoBulkEntries entries + 1
  | .held _ => 1
def uptoBulkAll {H : Type} : List (DataW H) → Nat
  | [] => 0
  | d :: r => uptoBulk d + uptoBulkAll r
def uptoBulkEntries {H : Type} : List (Lit × DataW H) → Nat
  | [] => 0
  | x :: r => uptoBulkEntry x + uptoBulkEntries r
def uptoBulkEntry {H : Type} : Lit × DataW H → Nat
  | (.string bytes, d) => bytes.length + uptoBulk d + 1
  | (_, d) => uptoBulk d + 1
 end
def uptoSmall : (H : Type) → List (DataW H) → Bool := fun _ ds => decide (uptoBulkAll ds ≤ 1048576)
def OpenSpec.upto (s : _root_.Go.ChangeSpec) : _root_.Go.OpenSpec := { _root_.Go.OpenSpec.ofChange s with cond := some uptoSmall }

/-- 'laws.FnExactWeatherName', WHERE WHAT IT READS IS OF BULK AT MOST 1048576: true; the input reads as it did. -/
def fnExactWeatherNameUptoRow : OpenClaim := { program := "ytcddihgdidlbkaa", sum := "54a89147a179f2d1ed8b86325d578291288ed067b4e2d21200838073240a9f43", func := "loop.example/g01057/laws.FnExactWeatherName", spec := "fnExactWeatherName", apart := false, narrowed := true }
def FnExactWeatherNameUptoSaid : Prop := fnExactWeatherNameUptoRow.holds Try.pinned (OpenSpec.upto fnExactWeatherNameSpec)

/-- 'laws.FnExactValidMotor', WHERE WHAT IT READS IS OF BULK AT MOST 1048576: true; the input reads as it did. -/
def fnExactValidMotorUptoRow : OpenClaim := { program := "ytcddihgdidlbkaa", sum := "54a89147a179f2d1ed8b86325d578291288ed067b4e2d21200838073240a9f43", func := "loop.example/g01057/laws.FnExactValidMotor", spec := "fnExactValidMotor", apart := false, narrowed := true }
def FnExactValidMotorUptoSaid : Prop := fnExactValidMotorUptoRow.holds Try.pinned (OpenSpec.upto fnExactValidMotorSpec)

/-- 'laws.FnExactValidRope', WHERE WHAT IT READS IS OF BULK AT MOST 1048576: true; the input reads as it did. -/
def fnExactValidRopeUptoRow : OpenClaim := { program := "ytcddihgdidlbkaa", sum := "54a89147a179f2d1ed8b86325d578291288ed067b4e2d21200838073240a9f43", func := "loop.example/g01057/laws.FnExactValidRope", spec := "fnExactValidRope", apart := false, narrowed := true }
def FnExactValidRopeUptoSaid : Prop := fnExactValidRopeUptoRow.holds Try.pinned (OpenSpec.upto fnExactValidRopeSpec)

/-- 'laws.FnExactValidProfile', WHERE WHAT IT READS IS OF BULK AT MOST 1048576: true; the input reads as it did. -/
def fnExactValidProfileUptoRow : OpenClaim := { program := "ytcddihgdidlbkaa", sum := "54a89147a179f2d1ed8b86325d578291288ed067b4e2d21200838073240a9f43", func := "loop.example/g01057/laws.FnExactValidProfile", spec := "fnExactValidProfile", apart := false, narrowed := true }
def FnExactValidProfileUptoSaid : Prop := fnExactValidProfileUptoRow.holds Try.pinned (OpenSpec.upto fnExactValidProfileSpec)

/-- 'laws.FnExactReserveOf', WHERE WHAT IT READS IS OF BULK AT MOST 1048576: true; the input reads as it did. -/
def fnExactReserveOfUptoRow : OpenClaim := { program := "ytcddihgdidlbkaa", sum := "54a89147a179f2d1ed8b86325d578291288ed067b4e2d21200838073240a9f43", func := "loop.example/g01057/laws.FnExactReserveOf", spec := "fnExactReserveOf", apart := false, narrowed := true }
def FnExactReserveOfUptoSaid : Prop := fnExactReserveOfUptoRow.holds Try.pinned (OpenSpec.upto fnExactReserveOfSpec)

/-- 'laws.FnExactPullFor', WHERE WHAT IT READS IS OF BULK AT MOST 1048576: true; the input reads as it did. -/
def fnExactPullForUptoRow : OpenClaim := { program := "ytcddihgdidlbkaa", sum := "54a89147a179f2d1ed8b86325d578291288ed067b4e2d21200838073240a9f43", func := "loop.example/g01057/laws.FnExactPullFor", spec := "fnExactPullFor", apart := false, narrowed := true }
def FnExactPullForUptoSaid : Prop := fnExactPullForUptoRow.holds Try.pinned (OpenSpec.upto fnExactPullForSpec)

/-- 'laws.FnExactRopeMass', WHERE WHAT IT READS IS OF BULK AT MOST 1048576: true; the input reads as it did. -/
def fnExactRopeMassUptoRow : OpenClaim := { program := "ytcddihgdidlbkaa", sum := "54a89147a179f2d1ed8b86325d578291288ed067b4e2d21200838073240a9f43", func := "loop.example/g01057/laws.FnExactRopeMass", spec := "fnExactRopeMass", apart := false, narrowed := true }
def FnExactRopeMassUptoSaid : Prop := fnExactRopeMassUptoRow.holds Try.pinned (OpenSpec.upto fnExactRopeMassSpec)

/-- 'laws.FnExactCutRope', WHERE WHAT IT READS IS OF BULK AT MOST 1048576: true; the input reads as it did. -/
def fnExactCutRopeUptoRow : OpenClaim := { program := "ytcddihgdidlbkaa", sum := "54a89147a179f2d1ed8b86325d578291288ed067b4e2d21200838073240a9f43", func := "loop.example/g01057/laws.FnExactCutRope", spec := "fnExactCutRope", apart := false, narrowed := true }
def FnExactCutRopeUptoSaid : Prop := fnExactCutRopeUptoRow.holds Try.pinned (OpenSpec.upto fnExactCutRopeSpec)

/-- 'laws.FnExactStretchOf', WHERE WHAT IT READS IS OF BULK AT MOST 1048576: true; the input reads as it did. -/
def fnExactStretchOfUptoRow : OpenClaim := { program := "ytcddihgdidlbkaa", sum := "54a89147a179f2d1ed8b86325d578291288ed067b4e2d21200838073240a9f43", func := "loop.example/g01057/laws.FnExactStretchOf", spec := "fnExactStretchOf", apart := false, narrowed := true }
def FnExactStretchOfUptoSaid : Prop := fnExactStretchOfUptoRow.holds Try.pinned (OpenSpec.upto fnExactStretchOfSpec)

/-- 'laws.FnExactSpliceLoss', WHERE WHAT IT READS IS OF BULK AT MOST 1048576: true; the input reads as it did. -/
def fnExactSpliceLossUptoRow : OpenClaim := { program := "ytcddihgdidlbkaa", sum := "54a89147a179f2d1ed8b86325d578291288ed067b4e2d21200838073240a9f43", func := "loop.example/g01057/laws.FnExactSpliceLoss", spec := "fnExactSpliceLoss", apart := false, narrowed := true }
def FnExactSpliceLossUptoSaid : Prop := fnExactSpliceLossUptoRow.holds Try.pinned (OpenSpec.upto fnExactSpliceLossSpec)

/-- 'laws.FnExactPowerNeeded', WHERE WHAT IT READS IS OF BULK AT MOST 1048576: true; the input reads as it did. -/
def fnExactPowerNeededUptoRow : OpenClaim := { program := "ytcddihgdidlbkaa", sum := "54a89147a179f2d1ed8b86325d578291288ed067b4e2d21200838073240a9f43", func := "loop.example/g01057/laws.FnExactPowerNeeded", spec := "fnExactPowerNeeded", apart := false, narrowed := true }
def FnExactPowerNeededUptoSaid : Prop := fnExactPowerNeededUptoRow.holds Try.pinned (OpenSpec.upto fnExactPowerNeededSpec)

/-- 'laws.FnExactGripOf', WHERE WHAT IT READS IS OF BULK AT MOST 1048576: true; the input reads as it did. -/
def fnExactGripOfUptoRow : OpenClaim := { program := "ytcddihgdidlbkaa", sum := "54a89147a179f2d1ed8b86325d578291288ed067b4e2d21200838073240a9f43", func := "loop.example/g01057/laws.FnExactGripOf", spec := "fnExactGripOf", apart := false, narrowed := true }
def FnExactGripOfUptoSaid : Prop := fnExactGripOfUptoRow.holds Try.pinned (OpenSpec.upto fnExactGripOfSpec)

end Rows
end Go.Proofs.Ytcddihgdidlbkaa
