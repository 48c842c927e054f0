/-
  No cell of these rows narrows 'for every input' (looked for: loops, veiled, ifaces, maps, wideKeys, modest, calm, conditions, laid).
  DERIVED. THE GIVEN ROWS OF THIS SEAT. 12 by the template 'for every input the law returns true; each argument reads behind the call as it read before'; 0 by the template 'total and deterministic' (their statements: YtgnanppgbkngnaaTotals.lean).
  GIVEN WITH THE SEED: the statements are not yours to turn. If you find one false, say at which input.
  Laid BY PROGRAM, IN A SANDBOX (cutbox-rows.mjs): the forced cells as the released guide's own fill.sh prints them over the translation 77d506c04ccd95dd… (all of the seat's roots in one cut). By AI agents, Wed Nov 11 2026. No macro, syntax, notation, axiom, sorry.
-/
import Derived.Test.YtgnanppgbkngnaaChecked
import GoSem.Claim
import GoSem.ClaimJoined
import GoSem.ClaimMapViews
import Derived.JoinedTies
import Derived.KernelRfl
namespace Go.Proofs.Ytgnanppgbkngnaa
/- THE CELL 'sum', in the pinned program and in every row, IS THE sha256 OF THE DUMP (.gsa) THAT YtgnanppgbkngnaaProg.lean LOADS. Nothing in Lean hashes anything: it is a label: what it is worth is what the hold of that sum in a sandbox is worth. -/
noncomputable def Try.pinned : Pinned := { name := "ytgnanppgbkngnaa", sum := "77d506c04ccd95dda1cb3ac683f980000b34343fa99afdd4b8d19af74ed5b6c3", checked := Try.checked }
namespace Rows
def none {H : Type} : Left H := { results := [], args := [] }

/-- 'laws.FnExactHeatAfter': WHATEVER THE INPUT: true; the input reads as it did. -/
def fnExactHeatAfterSpec : ChangeSpec := { name := "fnExactHeatAfter", fn := fun _ => fun
  | [d1, d2, d3, d4] => { results := [.lit (.bool true)], args := [d1, d2, d3, d4] }
  | _ => none }
def fnExactHeatAfterRow : OpenClaim := { program := "ytgnanppgbkngnaa", sum := "77d506c04ccd95dda1cb3ac683f980000b34343fa99afdd4b8d19af74ed5b6c3", func := "loop.example/g01057/laws.FnExactHeatAfter", spec := "fnExactHeatAfter", apart := false }
def FnExactHeatAfterSaid : Prop := fnExactHeatAfterRow.holds Try.pinned (OpenSpec.ofChange fnExactHeatAfterSpec)

/-- ITS FALSE NEIGHBOUR: 'it returns false'. Refute it at one input. -/
def fnExactHeatAfterWrong : ChangeSpec := { name := "fnExactHeatAfter", fn := fun _ => fun
  | [d1, d2, d3, d4] => { results := [.lit (.bool false)], args := [d1, d2, d3, d4] }
  | _ => none }
def FnExactHeatAfterWrongFalsely : Prop := fnExactHeatAfterRow.holds Try.pinned (OpenSpec.ofChange fnExactHeatAfterWrong)

/-- 'laws.FnExactStepsToHot': WHATEVER THE INPUT: true; the input reads as it did. -/
def fnExactStepsToHotSpec : ChangeSpec := { name := "fnExactStepsToHot", fn := fun _ => fun
  | [d1, d2, d3, d4] => { results := [.lit (.bool true)], args := [d1, d2, d3, d4] }
  | _ => none }
def fnExactStepsToHotRow : OpenClaim := { program := "ytgnanppgbkngnaa", sum := "77d506c04ccd95dda1cb3ac683f980000b34343fa99afdd4b8d19af74ed5b6c3", func := "loop.example/g01057/laws.FnExactStepsToHot", spec := "fnExactStepsToHot", apart := false }
def FnExactStepsToHotSaid : Prop := fnExactStepsToHotRow.holds Try.pinned (OpenSpec.ofChange fnExactStepsToHotSpec)

/-- ITS FALSE NEIGHBOUR: 'it returns false'. Refute it at one input. -/
def fnExactStepsToHotWrong : ChangeSpec := { name := "fnExactStepsToHot", fn := fun _ => fun
  | [d1, d2, d3, d4] => { results := [.lit (.bool false)], args := [d1, d2, d3, d4] }
  | _ => none }
def FnExactStepsToHotWrongFalsely : Prop := fnExactStepsToHotRow.holds Try.pinned (OpenSpec.ofChange fnExactStepsToHotWrong)

/-- 'laws.FnExactSpeedWith': WHATEVER THE INPUT: true; the input reads as it did. -/
def fnExactSpeedWithSpec : ChangeSpec := { name := "fnExactSpeedWith", fn := fun _ => fun
  | [d1, d2] => { results := [.lit (.bool true)], args := [d1, d2] }
  | _ => none }
def fnExactSpeedWithRow : OpenClaim := { program := "ytgnanppgbkngnaa", sum := "77d506c04ccd95dda1cb3ac683f980000b34343fa99afdd4b8d19af74ed5b6c3", func := "loop.example/g01057/laws.FnExactSpeedWith", spec := "fnExactSpeedWith", unfollowed := true, recurses := true, apart := false }
def FnExactSpeedWithSaid : Prop := fnExactSpeedWithRow.holds Try.pinned (OpenSpec.ofChange fnExactSpeedWithSpec)

/-- ITS FALSE NEIGHBOUR: 'it returns false'. Refute it at one input. -/
def fnExactSpeedWithWrong : ChangeSpec := { name := "fnExactSpeedWith", fn := fun _ => fun
  | [d1, d2] => { results := [.lit (.bool false)], args := [d1, d2] }
  | _ => none }
def FnExactSpeedWithWrongFalsely : Prop := fnExactSpeedWithRow.holds Try.pinned (OpenSpec.ofChange fnExactSpeedWithWrong)

/-- 'laws.FnExactPeakFree': WHATEVER THE INPUT: true; the input reads as it did. -/
def fnExactPeakFreeSpec : ChangeSpec := { name := "fnExactPeakFree", fn := fun _ => fun
  | [d1, d2] => { results := [.lit (.bool true)], args := [d1, d2] }
  | _ => none }
def fnExactPeakFreeRow : OpenClaim := { program := "ytgnanppgbkngnaa", sum := "77d506c04ccd95dda1cb3ac683f980000b34343fa99afdd4b8d19af74ed5b6c3", func := "loop.example/g01057/laws.FnExactPeakFree", spec := "fnExactPeakFree", unfollowed := true, recurses := true, apart := false }
def FnExactPeakFreeSaid : Prop := fnExactPeakFreeRow.holds Try.pinned (OpenSpec.ofChange fnExactPeakFreeSpec)

/-- ITS FALSE NEIGHBOUR: 'it returns false'. Refute it at one input. -/
def fnExactPeakFreeWrong : ChangeSpec := { name := "fnExactPeakFree", fn := fun _ => fun
  | [d1, d2] => { results := [.lit (.bool false)], args := [d1, d2] }
  | _ => none }
def FnExactPeakFreeWrongFalsely : Prop := fnExactPeakFreeRow.holds Try.pinned (OpenSpec.ofChange fnExactPeakFreeWrong)

/-- 'laws.FnExactHardestPull': WHATEVER THE INPUT: true; the input reads as it did. -/
def fnExactHardestPullSpec : ChangeSpec := { name := "fnExactHardestPull", fn := fun _ => fun
  | [d1, d2] => { results := [.lit (.bool true)], args := [d1, d2] }
  | _ => none }
def fnExactHardestPullRow : OpenClaim := { program := "ytgnanppgbkngnaa", sum := "77d506c04ccd95dda1cb3ac683f980000b34343fa99afdd4b8d19af74ed5b6c3", func := "loop.example/g01057/laws.FnExactHardestPull", spec := "fnExactHardestPull", unfollowed := true, recurses := true, apart := false }
def FnExactHardestPullSaid : Prop := fnExactHardestPullRow.holds Try.pinned (OpenSpec.ofChange fnExactHardestPullSpec)

/-- ITS FALSE NEIGHBOUR: 'it returns false'. Refute it at one input. -/
def fnExactHardestPullWrong : ChangeSpec := { name := "fnExactHardestPull", fn := fun _ => fun
  | [d1, d2] => { results := [.lit (.bool false)], args := [d1, d2] }
  | _ => none }
def FnExactHardestPullWrongFalsely : Prop := fnExactHardestPullRow.holds Try.pinned (OpenSpec.ofChange fnExactHardestPullWrong)

/-- 'laws.FnExactEnergyBack': WHATEVER THE INPUT: true; the input reads as it did. -/
def fnExactEnergyBackSpec : ChangeSpec := { name := "fnExactEnergyBack", fn := fun _ => fun
  | [d1, d2, d3, d4] => { results := [.lit (.bool true)], args := [d1, d2, d3, d4] }
  | _ => none }
def fnExactEnergyBackRow : OpenClaim := { program := "ytgnanppgbkngnaa", sum := "77d506c04ccd95dda1cb3ac683f980000b34343fa99afdd4b8d19af74ed5b6c3", func := "loop.example/g01057/laws.FnExactEnergyBack", spec := "fnExactEnergyBack", unfollowed := true, recurses := true, apart := false }
def FnExactEnergyBackSaid : Prop := fnExactEnergyBackRow.holds Try.pinned (OpenSpec.ofChange fnExactEnergyBackSpec)

/-- ITS FALSE NEIGHBOUR: 'it returns false'. Refute it at one input. -/
def fnExactEnergyBackWrong : ChangeSpec := { name := "fnExactEnergyBack", fn := fun _ => fun
  | [d1, d2, d3, d4] => { results := [.lit (.bool false)], args := [d1, d2, d3, d4] }
  | _ => none }
def FnExactEnergyBackWrongFalsely : Prop := fnExactEnergyBackRow.holds Try.pinned (OpenSpec.ofChange fnExactEnergyBackWrong)

/-- 'laws.FnExactEnergyFor': WHATEVER THE INPUT: true; the input reads as it did. -/
def fnExactEnergyForSpec : ChangeSpec := { name := "fnExactEnergyFor", fn := fun _ => fun
  | [d1, d2, d3, d4] => { results := [.lit (.bool true)], args := [d1, d2, d3, d4] }
  | _ => none }
def fnExactEnergyForRow : OpenClaim := { program := "ytgnanppgbkngnaa", sum := "77d506c04ccd95dda1cb3ac683f980000b34343fa99afdd4b8d19af74ed5b6c3", func := "loop.example/g01057/laws.FnExactEnergyFor", spec := "fnExactEnergyFor", unfollowed := true, recurses := true, apart := false }
def FnExactEnergyForSaid : Prop := fnExactEnergyForRow.holds Try.pinned (OpenSpec.ofChange fnExactEnergyForSpec)

/-- ITS FALSE NEIGHBOUR: 'it returns false'. Refute it at one input. -/
def fnExactEnergyForWrong : ChangeSpec := { name := "fnExactEnergyFor", fn := fun _ => fun
  | [d1, d2, d3, d4] => { results := [.lit (.bool false)], args := [d1, d2, d3, d4] }
  | _ => none }
def FnExactEnergyForWrongFalsely : Prop := fnExactEnergyForRow.holds Try.pinned (OpenSpec.ofChange fnExactEnergyForWrong)

/-- 'laws.FnExactGearFor': WHATEVER THE INPUT: true; the input reads as it did. -/
def fnExactGearForSpec : ChangeSpec := { name := "fnExactGearFor", fn := fun _ => fun
  | [d1, d2, d3, d4] => { results := [.lit (.bool true)], args := [d1, d2, d3, d4] }
  | _ => none }
def fnExactGearForRow : OpenClaim := { program := "ytgnanppgbkngnaa", sum := "77d506c04ccd95dda1cb3ac683f980000b34343fa99afdd4b8d19af74ed5b6c3", func := "loop.example/g01057/laws.FnExactGearFor", spec := "fnExactGearFor", apart := false }
def FnExactGearForSaid : Prop := fnExactGearForRow.holds Try.pinned (OpenSpec.ofChange fnExactGearForSpec)

/-- ITS FALSE NEIGHBOUR: 'it returns false'. Refute it at one input. -/
def fnExactGearForWrong : ChangeSpec := { name := "fnExactGearFor", fn := fun _ => fun
  | [d1, d2, d3, d4] => { results := [.lit (.bool false)], args := [d1, d2, d3, d4] }
  | _ => none }
def FnExactGearForWrongFalsely : Prop := fnExactGearForRow.holds Try.pinned (OpenSpec.ofChange fnExactGearForWrong)

/-- 'laws.FnExactCheapestHours': WHATEVER THE INPUT: true; the input reads as it did. -/
def fnExactCheapestHoursSpec : ChangeSpec := { name := "fnExactCheapestHours", fn := fun _ => fun
  | [d1, d2, d3] => { results := [.lit (.bool true)], args := [d1, d2, d3] }
  | _ => none }
def fnExactCheapestHoursRow : OpenClaim := { program := "ytgnanppgbkngnaa", sum := "77d506c04ccd95dda1cb3ac683f980000b34343fa99afdd4b8d19af74ed5b6c3", func := "loop.example/g01057/laws.FnExactCheapestHours", spec := "fnExactCheapestHours", unfollowed := true, recurses := true, apart := false }
def FnExactCheapestHoursSaid : Prop := fnExactCheapestHoursRow.holds Try.pinned (OpenSpec.ofChange fnExactCheapestHoursSpec)

/-- ITS FALSE NEIGHBOUR: 'it returns false'. Refute it at one input. -/
def fnExactCheapestHoursWrong : ChangeSpec := { name := "fnExactCheapestHours", fn := fun _ => fun
  | [d1, d2, d3] => { results := [.lit (.bool false)], args := [d1, d2, d3] }
  | _ => none }
def FnExactCheapestHoursWrongFalsely : Prop := fnExactCheapestHoursRow.holds Try.pinned (OpenSpec.ofChange fnExactCheapestHoursWrong)

/-- 'laws.FnExactBendingsAfter': WHATEVER THE INPUT: true; the input reads as it did. -/
def fnExactBendingsAfterSpec : ChangeSpec := { name := "fnExactBendingsAfter", fn := fun _ => fun
  | [d1, d2] => { results := [.lit (.bool true)], args := [d1, d2] }
  | _ => none }
def fnExactBendingsAfterRow : OpenClaim := { program := "ytgnanppgbkngnaa", sum := "77d506c04ccd95dda1cb3ac683f980000b34343fa99afdd4b8d19af74ed5b6c3", func := "loop.example/g01057/laws.FnExactBendingsAfter", spec := "fnExactBendingsAfter", unfollowed := true, recurses := true, apart := false }
def FnExactBendingsAfterSaid : Prop := fnExactBendingsAfterRow.holds Try.pinned (OpenSpec.ofChange fnExactBendingsAfterSpec)

/-- ITS FALSE NEIGHBOUR: 'it returns false'. Refute it at one input. -/
def fnExactBendingsAfterWrong : ChangeSpec := { name := "fnExactBendingsAfter", fn := fun _ => fun
  | [d1, d2] => { results := [.lit (.bool false)], args := [d1, d2] }
  | _ => none }
def FnExactBendingsAfterWrongFalsely : Prop := fnExactBendingsAfterRow.holds Try.pinned (OpenSpec.ofChange fnExactBendingsAfterWrong)

/-- 'laws.FnExactBendsLeft': WHATEVER THE INPUT: true; the input reads as it did. -/
def fnExactBendsLeftSpec : ChangeSpec := { name := "fnExactBendsLeft", fn := fun _ => fun
  | [d1, d2, d3] => { results := [.lit (.bool true)], args := [d1, d2, d3] }
  | _ => none }
def fnExactBendsLeftRow : OpenClaim := { program := "ytgnanppgbkngnaa", sum := "77d506c04ccd95dda1cb3ac683f980000b34343fa99afdd4b8d19af74ed5b6c3", func := "loop.example/g01057/laws.FnExactBendsLeft", spec := "fnExactBendsLeft", unfollowed := true, recurses := true, apart := false }
def FnExactBendsLeftSaid : Prop := fnExactBendsLeftRow.holds Try.pinned (OpenSpec.ofChange fnExactBendsLeftSpec)

/-- ITS FALSE NEIGHBOUR: 'it returns false'. Refute it at one input. -/
def fnExactBendsLeftWrong : ChangeSpec := { name := "fnExactBendsLeft", fn := fun _ => fun
  | [d1, d2, d3] => { results := [.lit (.bool false)], args := [d1, d2, d3] }
  | _ => none }
def FnExactBendsLeftWrongFalsely : Prop := fnExactBendsLeftRow.holds Try.pinned (OpenSpec.ofChange fnExactBendsLeftWrong)

/-- 'laws.FnExactWidestGap': WHATEVER THE INPUT: true; the input reads as it did. -/
def fnExactWidestGapSpec : ChangeSpec := { name := "fnExactWidestGap", fn := fun _ => fun
  | [d1, d2] => { results := [.lit (.bool true)], args := [d1, d2] }
  | _ => none }
def fnExactWidestGapRow : OpenClaim := { program := "ytgnanppgbkngnaa", sum := "77d506c04ccd95dda1cb3ac683f980000b34343fa99afdd4b8d19af74ed5b6c3", func := "loop.example/g01057/laws.FnExactWidestGap", spec := "fnExactWidestGap", apart := false }
def FnExactWidestGapSaid : Prop := fnExactWidestGapRow.holds Try.pinned (OpenSpec.ofChange fnExactWidestGapSpec)

/-- ITS FALSE NEIGHBOUR: 'it returns false'. Refute it at one input. -/
def fnExactWidestGapWrong : ChangeSpec := { name := "fnExactWidestGap", fn := fun _ => fun
  | [d1, d2] => { results := [.lit (.bool false)], args := [d1, d2] }
  | _ => none }
def FnExactWidestGapWrongFalsely : Prop := fnExactWidestGapRow.holds Try.pinned (OpenSpec.ofChange fnExactWidestGapWrong)

/- THE SECOND FORM. 'bulk': how many values and letters a reading holds, each counted each time it is reached (what is shared counts as often as it is met; a slice's spare places count too). A statement '..UptoSaid' is the law's where the arguments, and the package variables that the reading takes, are together of bulk at most 1048576: NARROWER than '..Said'. Prove '..Said' where nothing that the law and all that it calls make is longer than what came in: it says more and counts as full. Else prove '..UptoSaid'. A law counts once. -/
mutual
def uptoBulk {H : Type} : DataW H → Nat
  | .lit (.string bytes) => bytes.length + 1
  | .lit _ => 1
  | .nil => 1
  | .ptr d => uptoBulk d + 1
  | .slice elems spare => uptoBulkAll elems + uptoBulkAll spare + 1
  | .agg parts => uptoBulkAll parts + 1
  | .iface _ d => uptoBulk d + 1
  | .map entries => uptoBulkEntries entries + 1
  | .held _ => 1
def uptoBulkAll {H : Type} : List (DataW H) → Nat
  | [] => 0
  | d :: r => uptoBulk d + uptoBulkAll r
def uptoBulkEntries {H : Type} : List (Lit × DataW H) → Nat
  | [] => 0
  | x :: r => uptoBulkEntry x + uptoBulkEntries r
def uptoBulkEntry {H : Type} : Lit × DataW H → Nat
  | (.string bytes, d) => bytes.length + uptoBulk d + 1
  | (_, d) => uptoBulk d + 1
 end
def uptoSmall : (H : Type) → List (DataW H) → Bool := fun _ ds => decide (uptoBulkAll ds ≤ 1048576)
def OpenSpec.upto (s : _root_.Go.ChangeSpec) : _root_.Go.OpenSpec := { _root_.Go.OpenSpec.ofChange s with cond := some uptoSmall }

/-- 'laws.FnExactHeatAfter', WHERE WHAT IT READS IS OF BULK AT MOST 1048576: true; the input reads as it did. -/
def fnExactHeatAfterUptoRow : OpenClaim := { program := "ytgnanppgbkngnaa", sum := "77d506c04ccd95dda1cb3ac683f980000b34343fa99afdd4b8d19af74ed5b6c3", func := "loop.example/g01057/laws.FnExactHeatAfter", spec := "fnExactHeatAfter", apart := false, narrowed := true }
def FnExactHeatAfterUptoSaid : Prop := fnExactHeatAfterUptoRow.holds Try.pinned (OpenSpec.upto fnExactHeatAfterSpec)

/-- 'laws.FnExactStepsToHot', WHERE WHAT IT READS IS OF BULK AT MOST 1048576: true; the input reads as it did. -/
def fnExactStepsToHotUptoRow : OpenClaim := { program := "ytgnanppgbkngnaa", sum := "77d506c04ccd95dda1cb3ac683f980000b34343fa99afdd4b8d19af74ed5b6c3", func := "loop.example/g01057/laws.FnExactStepsToHot", spec := "fnExactStepsToHot", apart := false, narrowed := true }
def FnExactStepsToHotUptoSaid : Prop := fnExactStepsToHotUptoRow.holds Try.pinned (OpenSpec.upto fnExactStepsToHotSpec)

/-- 'laws.FnExactSpeedWith', WHERE WHAT IT READS IS OF BULK AT MOST 1048576: true; the input reads as it did. -/
def fnExactSpeedWithUptoRow : OpenClaim := { program := "ytgnanppgbkngnaa", sum := "77d506c04ccd95dda1cb3ac683f980000b34343fa99afdd4b8d19af74ed5b6c3", func := "loop.example/g01057/laws.FnExactSpeedWith", spec := "fnExactSpeedWith", unfollowed := true, recurses := true, apart := false, narrowed := true }
def FnExactSpeedWithUptoSaid : Prop := fnExactSpeedWithUptoRow.holds Try.pinned (OpenSpec.upto fnExactSpeedWithSpec)

/-- 'laws.FnExactPeakFree', WHERE WHAT IT READS IS OF BULK AT MOST 1048576: true; the input reads as it did. -/
def fnExactPeakFreeUptoRow : OpenClaim := { program := "ytgnanppgbkngnaa", sum := "77d506c04ccd95dda1cb3ac683f980000b34343fa99afdd4b8d19af74ed5b6c3", func := "loop.example/g01057/laws.FnExactPeakFree", spec := "fnExactPeakFree", unfollowed := true, recurses := true, apart := false, narrowed := true }
def FnExactPeakFreeUptoSaid : Prop := fnExactPeakFreeUptoRow.holds Try.pinned (OpenSpec.upto fnExactPeakFreeSpec)

/-- 'laws.FnExactHardestPull', WHERE WHAT IT READS IS OF BULK AT MOST 1048576: true; the input reads as it did. -/
def fnExactHardestPullUptoRow : OpenClaim := { program := "ytgnanppgbkngnaa", sum := "77d506c04ccd95dda1cb3ac683f980000b34343fa99afdd4b8d19af74ed5b6c3", func := "loop.example/g01057/laws.FnExactHardestPull", spec := "fnExactHardestPull", unfollowed := true, recurses := true, apart := false, narrowed := true }
def FnExactHardestPullUptoSaid : Prop := fnExactHardestPullUptoRow.holds Try.pinned (OpenSpec.upto fnExactHardestPullSpec)

/-- 'laws.FnExactEnergyBack', WHERE WHAT IT READS IS OF BULK AT MOST 1048576: true; the input reads as it did. -/
def fnExactEnergyBackUptoRow : OpenClaim := { program := "ytgnanppgbkngnaa", sum := "77d506c04ccd95dda1cb3ac683f980000b34343fa99afdd4b8d19af74ed5b6c3", func := "loop.example/g01057/laws.FnExactEnergyBack", spec := "fnExactEnergyBack", unfollowed := true, recurses := true, apart := false, narrowed := true }
def FnExactEnergyBackUptoSaid : Prop := fnExactEnergyBackUptoRow.holds Try.pinned (OpenSpec.upto fnExactEnergyBackSpec)

/-- 'laws.FnExactEnergyFor', WHERE WHAT IT READS IS OF BULK AT MOST 1048576: true; the input reads as it did. -/
def fnExactEnergyForUptoRow : OpenClaim := { program := "ytgnanppgbkngnaa", sum := "77d506c04ccd95dda1cb3ac683f980000b34343fa99afdd4b8d19af74ed5b6c3", func := "loop.example/g01057/laws.FnExactEnergyFor", spec := "fnExactEnergyFor", unfollowed := true, recurses := true, apart := false, narrowed := true }
def FnExactEnergyForUptoSaid : Prop := fnExactEnergyForUptoRow.holds Try.pinned (OpenSpec.upto fnExactEnergyForSpec)

/-- 'laws.FnExactGearFor', WHERE WHAT IT READS IS OF BULK AT MOST 1048576: true; the input reads as it did. -/
def fnExactGearForUptoRow : OpenClaim := { program := "ytgnanppgbkngnaa", sum := "77d506c04ccd95dda1cb3ac683f980000b34343fa99afdd4b8d19af74ed5b6c3", func := "loop.example/g01057/laws.FnExactGearFor", spec := "fnExactGearFor", apart := false, narrowed := true }
def FnExactGearForUptoSaid : Prop := fnExactGearForUptoRow.holds Try.pinned (OpenSpec.upto fnExactGearForSpec)

/-- 'laws.FnExactCheapestHours', WHERE WHAT IT READS IS OF BULK AT MOST 1048576: true; the input reads as it did. -/
def fnExactCheapestHoursUptoRow : OpenClaim := { program := "ytgnanppgbkngnaa", sum := "77d506c04ccd95dda1cb3ac683f980000b34343fa99afdd4b8d19af74ed5b6c3", func := "loop.example/g01057/laws.FnExactCheapestHours", spec := "fnExactCheapestHours", unfollowed := true, recurses := true, apart := false, narrowed := true }
def FnExactCheapestHoursUptoSaid : Prop := fnExactCheapestHoursUptoRow.holds Try.pinned (OpenSpec.upto fnExactCheapestHoursSpec)

/-- 'laws.FnExactBendingsAfter', WHERE WHAT IT READS IS OF BULK AT MOST 1048576: true; the input reads as it did. -/
def fnExactBendingsAfterUptoRow : OpenClaim := { program := "ytgnanppgbkngnaa", sum := "77d506c04ccd95dda1cb3ac683f980000b34343fa99afdd4b8d19af74ed5b6c3", func := "loop.example/g01057/laws.FnExactBendingsAfter", spec := "fnExactBendingsAfter", unfollowed := true, recurses := true, apart := false, narrowed := true }
def FnExactBendingsAfterUptoSaid : Prop := fnExactBendingsAfterUptoRow.holds Try.pinned (OpenSpec.upto fnExactBendingsAfterSpec)

/-- 'laws.FnExactBendsLeft', WHERE WHAT IT READS IS OF BULK AT MOST 1048576: true; the input reads as it did. -/
def fnExactBendsLeftUptoRow : OpenClaim := { program := "ytgnanppgbkngnaa", sum := "77d506c04ccd95dda1cb3ac683f980000b34343fa99afdd4b8d19af74ed5b6c3", func := "loop.example/g01057/laws.FnExactBendsLeft", spec := "fnExactBendsLeft", unfollowed := true, recurses := true, apart := false, narrowed := true }
def FnExactBendsLeftUptoSaid : Prop := fnExactBendsLeftUptoRow.holds Try.pinned (OpenSpec.upto fnExactBendsLeftSpec)

/-- 'laws.FnExactWidestGap', WHERE WHAT IT READS IS OF BULK AT MOST 1048576: true; the input reads as it did. -/
def fnExactWidestGapUptoRow : OpenClaim := { program := "ytgnanppgbkngnaa", sum := "77d506c04ccd95dda1cb3ac683f980000b34343fa99afdd4b8d19af74ed5b6c3", func := "loop.example/g01057/laws.FnExactWidestGap", spec := "fnExactWidestGap", apart := false, narrowed := true }
def FnExactWidestGapUptoSaid : Prop := fnExactWidestGapUptoRow.holds Try.pinned (OpenSpec.upto fnExactWidestGapSpec)

end Rows
end Go.Proofs.Ytgnanppgbkngnaa
