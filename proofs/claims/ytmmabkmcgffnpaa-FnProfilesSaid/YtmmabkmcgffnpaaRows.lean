/-
  No cell of these rows narrows 'for every input' (looked for: loops, veiled, ifaces, maps, wideKeys, modest, calm, conditions, laid).
  DERIVED. THE GIVEN ROWS OF THIS SEAT. 8 by the template 'for every input the law returns true; each argument reads behind the call as it read before'; 0 by the template 'total and deterministic' (their statements: YtmmabkmcgffnpaaTotals.lean).
  GIVEN WITH THE SEED: the statements are not yours to turn. If you find one false, say at which input.
  Laid BY PROGRAM, IN A SANDBOX (cutbox-rows.mjs): the forced cells as the released guide's own fill.sh prints them over the translation e11dc3e6bfa59753… (all of the seat's roots in one cut). By AI agents, Wed Nov 11 2026. No macro, syntax, notation, axiom, sorry.
-/
import Derived.Test.YtmmabkmcgffnpaaChecked
import GoSem.Claim
import GoSem.ClaimJoined
import GoSem.ClaimMapViews
import Derived.JoinedTies
import Derived.KernelRfl
namespace Go.Proofs.Ytmmabkmcgffnpaa
/- THE CELL 'sum', in the pinned program and in every row, IS THE sha256 OF THE DUMP (.gsa) THAT YtmmabkmcgffnpaaProg.lean LOADS. Nothing in Lean hashes anything: it is a label: what it is worth is what the hold of that sum in a sandbox is worth. -/
noncomputable def Try.pinned : Pinned := { name := "ytmmabkmcgffnpaa", sum := "e11dc3e6bfa59753a145e093b0d36646916a9b49e62ef0f893cb7628d68fe80e", checked := Try.checked }
namespace Rows
def none {H : Type} : Left H := { results := [], args := [] }

/-- 'laws.FnExactNextSpeed': WHATEVER THE INPUT: true; the input reads as it did. -/
def fnExactNextSpeedSpec : ChangeSpec := { name := "fnExactNextSpeed", fn := fun _ => fun
  | [d1, d2, d3] => { results := [.lit (.bool true)], args := [d1, d2, d3] }
  | _ => none }
def fnExactNextSpeedRow : OpenClaim := { program := "ytmmabkmcgffnpaa", sum := "e11dc3e6bfa59753a145e093b0d36646916a9b49e62ef0f893cb7628d68fe80e", func := "loop.example/g01057/laws.FnExactNextSpeed", spec := "fnExactNextSpeed", unfollowed := true, recurses := true, apart := false }
def FnExactNextSpeedSaid : Prop := fnExactNextSpeedRow.holds Try.pinned (OpenSpec.ofChange fnExactNextSpeedSpec)

/-- ITS FALSE NEIGHBOUR: 'it returns false'. Refute it at one input. -/
def fnExactNextSpeedWrong : ChangeSpec := { name := "fnExactNextSpeed", fn := fun _ => fun
  | [d1, d2, d3] => { results := [.lit (.bool false)], args := [d1, d2, d3] }
  | _ => none }
def FnExactNextSpeedWrongFalsely : Prop := fnExactNextSpeedRow.holds Try.pinned (OpenSpec.ofChange fnExactNextSpeedWrong)

/-- 'laws.FnExactTopSpeed': WHATEVER THE INPUT: true; the input reads as it did. -/
def fnExactTopSpeedSpec : ChangeSpec := { name := "fnExactTopSpeed", fn := fun _ => fun
  | [d1, d2] => { results := [.lit (.bool true)], args := [d1, d2] }
  | _ => none }
def fnExactTopSpeedRow : OpenClaim := { program := "ytmmabkmcgffnpaa", sum := "e11dc3e6bfa59753a145e093b0d36646916a9b49e62ef0f893cb7628d68fe80e", func := "loop.example/g01057/laws.FnExactTopSpeed", spec := "fnExactTopSpeed", unfollowed := true, recurses := true, apart := false }
def FnExactTopSpeedSaid : Prop := fnExactTopSpeedRow.holds Try.pinned (OpenSpec.ofChange fnExactTopSpeedSpec)

/-- ITS FALSE NEIGHBOUR: 'it returns false'. Refute it at one input. -/
def fnExactTopSpeedWrong : ChangeSpec := { name := "fnExactTopSpeed", fn := fun _ => fun
  | [d1, d2] => { results := [.lit (.bool false)], args := [d1, d2] }
  | _ => none }
def FnExactTopSpeedWrongFalsely : Prop := fnExactTopSpeedRow.holds Try.pinned (OpenSpec.ofChange fnExactTopSpeedWrong)

/-- 'laws.FnExactRideTime': WHATEVER THE INPUT: true; the input reads as it did. -/
def fnExactRideTimeSpec : ChangeSpec := { name := "fnExactRideTime", fn := fun _ => fun
  | [d1, d2] => { results := [.lit (.bool true)], args := [d1, d2] }
  | _ => none }
def fnExactRideTimeRow : OpenClaim := { program := "ytmmabkmcgffnpaa", sum := "e11dc3e6bfa59753a145e093b0d36646916a9b49e62ef0f893cb7628d68fe80e", func := "loop.example/g01057/laws.FnExactRideTime", spec := "fnExactRideTime", unfollowed := true, recurses := true, apart := false }
def FnExactRideTimeSaid : Prop := fnExactRideTimeRow.holds Try.pinned (OpenSpec.ofChange fnExactRideTimeSpec)

/-- ITS FALSE NEIGHBOUR: 'it returns false'. Refute it at one input. -/
def fnExactRideTimeWrong : ChangeSpec := { name := "fnExactRideTime", fn := fun _ => fun
  | [d1, d2] => { results := [.lit (.bool false)], args := [d1, d2] }
  | _ => none }
def FnExactRideTimeWrongFalsely : Prop := fnExactRideTimeRow.holds Try.pinned (OpenSpec.ofChange fnExactRideTimeWrong)

/-- 'laws.FnExactSecondAt': WHATEVER THE INPUT: true; the input reads as it did. -/
def fnExactSecondAtSpec : ChangeSpec := { name := "fnExactSecondAt", fn := fun _ => fun
  | [d1, d2, d3] => { results := [.lit (.bool true)], args := [d1, d2, d3] }
  | _ => none }
def fnExactSecondAtRow : OpenClaim := { program := "ytmmabkmcgffnpaa", sum := "e11dc3e6bfa59753a145e093b0d36646916a9b49e62ef0f893cb7628d68fe80e", func := "loop.example/g01057/laws.FnExactSecondAt", spec := "fnExactSecondAt", unfollowed := true, recurses := true, apart := false }
def FnExactSecondAtSaid : Prop := fnExactSecondAtRow.holds Try.pinned (OpenSpec.ofChange fnExactSecondAtSpec)

/-- ITS FALSE NEIGHBOUR: 'it returns false'. Refute it at one input. -/
def fnExactSecondAtWrong : ChangeSpec := { name := "fnExactSecondAt", fn := fun _ => fun
  | [d1, d2, d3] => { results := [.lit (.bool false)], args := [d1, d2, d3] }
  | _ => none }
def FnExactSecondAtWrongFalsely : Prop := fnExactSecondAtRow.holds Try.pinned (OpenSpec.ofChange fnExactSecondAtWrong)

/-- 'laws.FnExactSecondsFast': WHATEVER THE INPUT: true; the input reads as it did. -/
def fnExactSecondsFastSpec : ChangeSpec := { name := "fnExactSecondsFast", fn := fun _ => fun
  | [d1, d2, d3] => { results := [.lit (.bool true)], args := [d1, d2, d3] }
  | _ => none }
def fnExactSecondsFastRow : OpenClaim := { program := "ytmmabkmcgffnpaa", sum := "e11dc3e6bfa59753a145e093b0d36646916a9b49e62ef0f893cb7628d68fe80e", func := "loop.example/g01057/laws.FnExactSecondsFast", spec := "fnExactSecondsFast", unfollowed := true, recurses := true, apart := false }
def FnExactSecondsFastSaid : Prop := fnExactSecondsFastRow.holds Try.pinned (OpenSpec.ofChange fnExactSecondsFastSpec)

/-- ITS FALSE NEIGHBOUR: 'it returns false'. Refute it at one input. -/
def fnExactSecondsFastWrong : ChangeSpec := { name := "fnExactSecondsFast", fn := fun _ => fun
  | [d1, d2, d3] => { results := [.lit (.bool false)], args := [d1, d2, d3] }
  | _ => none }
def FnExactSecondsFastWrongFalsely : Prop := fnExactSecondsFastRow.holds Try.pinned (OpenSpec.ofChange fnExactSecondsFastWrong)

/-- 'laws.FnExactPlaceAfter': WHATEVER THE INPUT: true; the input reads as it did. -/
def fnExactPlaceAfterSpec : ChangeSpec := { name := "fnExactPlaceAfter", fn := fun _ => fun
  | [d1, d2, d3] => { results := [.lit (.bool true)], args := [d1, d2, d3] }
  | _ => none }
def fnExactPlaceAfterRow : OpenClaim := { program := "ytmmabkmcgffnpaa", sum := "e11dc3e6bfa59753a145e093b0d36646916a9b49e62ef0f893cb7628d68fe80e", func := "loop.example/g01057/laws.FnExactPlaceAfter", spec := "fnExactPlaceAfter", unfollowed := true, recurses := true, apart := false }
def FnExactPlaceAfterSaid : Prop := fnExactPlaceAfterRow.holds Try.pinned (OpenSpec.ofChange fnExactPlaceAfterSpec)

/-- ITS FALSE NEIGHBOUR: 'it returns false'. Refute it at one input. -/
def fnExactPlaceAfterWrong : ChangeSpec := { name := "fnExactPlaceAfter", fn := fun _ => fun
  | [d1, d2, d3] => { results := [.lit (.bool false)], args := [d1, d2, d3] }
  | _ => none }
def FnExactPlaceAfterWrongFalsely : Prop := fnExactPlaceAfterRow.holds Try.pinned (OpenSpec.ofChange fnExactPlaceAfterWrong)

/-- 'laws.FnExactLeastCruise': WHATEVER THE INPUT: true; the input reads as it did. -/
def fnExactLeastCruiseSpec : ChangeSpec := { name := "fnExactLeastCruise", fn := fun _ => fun
  | [d1, d2, d3] => { results := [.lit (.bool true)], args := [d1, d2, d3] }
  | _ => none }
def fnExactLeastCruiseRow : OpenClaim := { program := "ytmmabkmcgffnpaa", sum := "e11dc3e6bfa59753a145e093b0d36646916a9b49e62ef0f893cb7628d68fe80e", func := "loop.example/g01057/laws.FnExactLeastCruise", spec := "fnExactLeastCruise", unfollowed := true, recurses := true, apart := false }
def FnExactLeastCruiseSaid : Prop := fnExactLeastCruiseRow.holds Try.pinned (OpenSpec.ofChange fnExactLeastCruiseSpec)

/-- ITS FALSE NEIGHBOUR: 'it returns false'. Refute it at one input. -/
def fnExactLeastCruiseWrong : ChangeSpec := { name := "fnExactLeastCruise", fn := fun _ => fun
  | [d1, d2, d3] => { results := [.lit (.bool false)], args := [d1, d2, d3] }
  | _ => none }
def FnExactLeastCruiseWrongFalsely : Prop := fnExactLeastCruiseRow.holds Try.pinned (OpenSpec.ofChange fnExactLeastCruiseWrong)

/-- 'laws.FnProfiles': WHATEVER THE INPUT: true; the input reads as it did. -/
def fnProfilesSpec : ChangeSpec := { name := "fnProfiles", fn := fun _ => fun
  | [d1, d2] => { results := [.lit (.bool true)], args := [d1, d2] }
  | _ => none }
def fnProfilesRow : OpenClaim := { program := "ytmmabkmcgffnpaa", sum := "e11dc3e6bfa59753a145e093b0d36646916a9b49e62ef0f893cb7628d68fe80e", func := "loop.example/g01057/laws.FnProfiles", spec := "fnProfiles", unfollowed := true, recurses := true, apart := false }
def FnProfilesSaid : Prop := fnProfilesRow.holds Try.pinned (OpenSpec.ofChange fnProfilesSpec)

/-- ITS FALSE NEIGHBOUR: 'it returns false'. Refute it at one input. -/
def fnProfilesWrong : ChangeSpec := { name := "fnProfiles", fn := fun _ => fun
  | [d1, d2] => { results := [.lit (.bool false)], args := [d1, d2] }
  | _ => none }
def FnProfilesWrongFalsely : Prop := fnProfilesRow.holds Try.pinned (OpenSpec.ofChange fnProfilesWrong)

/- THE SECOND FORM. 'bulk': how many values and letters a reading holds, each counted each time it is reached (what is shared counts as often as it is met; a slice's spare places count too). A statement '..UptoSaid' is the law's where the arguments, and the package variables that the reading takes, are together of bulk at most 1048576: NARROWER than '..Said'. Prove '..Said' where nothing that the law and all that it calls make is longer than what came in: it says more and counts as full. Else prove '..UptoSaid'. A law counts once. -/
mutual
def uptoBulk {H : Type} : DataW H → Nat
  | .lit (.string bytes) => bytes.length + 1
  | .lit _ => 1
  | .nil => 1
  | .ptr d => uptoBulk d + 1
  | .slice elems spare => uptoBulkAll elems + uptoBulkAll spare + 1
  | .agg parts => uptoBulkAll parts + 1
  | .iface _ d => uptoBulk d + 1
  | .map entries => uptoBulkEntries entries + 1
  | .held _ => 1
def uptoBulkAll {H : Type} : List (DataW H) → Nat
  | [] => 0
  | d :: r => uptoBulk d + uptoBulkAll r
def uptoBulkEntries {H : Type} : List (Lit × DataW H) → Nat
  | [] => 0
  | x :: r => uptoBulkEntry x + uptoBulkEntries r
def uptoBulkEntry {H : Type} : Lit × DataW H → Nat
  | (.string bytes, d) => bytes.length + uptoBulk d + 1
  | (_, d) => uptoBulk d + 1
 end
def uptoSmall : (H : Type) → List (DataW H) → Bool := fun _ ds => decide (uptoBulkAll ds ≤ 1048576)
def OpenSpec.upto (s : _root_.Go.ChangeSpec) : _root_.Go.OpenSpec := { _root_.Go.OpenSpec.ofChange s with cond := some uptoSmall }

/-- 'laws.FnExactNextSpeed', WHERE WHAT IT READS IS OF BULK AT MOST 1048576: true; the input reads as it did. -/
def fnExactNextSpeedUptoRow : OpenClaim := { program := "ytmmabkmcgffnpaa", sum := "e11dc3e6bfa59753a145e093b0d36646916a9b49e62ef0f893cb7628d68fe80e", func := "loop.example/g01057/laws.FnExactNextSpeed", spec := "fnExactNextSpeed", unfollowed := true, recurses := true, apart := false, narrowed := true }
def FnExactNextSpeedUptoSaid : Prop := fnExactNextSpeedUptoRow.holds Try.pinned (OpenSpec.upto fnExactNextSpeedSpec)

/-- 'laws.FnExactTopSpeed', WHERE WHAT IT READS IS OF BULK AT MOST 1048576: true; the input reads as it did. -/
def fnExactTopSpeedUptoRow : OpenClaim := { program := "ytmmabkmcgffnpaa", sum := "e11dc3e6bfa59753a145e093b0d36646916a9b49e62ef0f893cb7628d68fe80e", func := "loop.example/g01057/laws.FnExactTopSpeed", spec := "fnExactTopSpeed", unfollowed := true, recurses := true, apart := false, narrowed := true }
def FnExactTopSpeedUptoSaid : Prop := fnExactTopSpeedUptoRow.holds Try.pinned (OpenSpec.upto fnExactTopSpeedSpec)

/-- 'laws.FnExactRideTime', WHERE WHAT IT READS IS OF BULK AT MOST 1048576: true; the input reads as it did. -/
def fnExactRideTimeUptoRow : OpenClaim := { program := "ytmmabkmcgffnpaa", sum := "e11dc3e6bfa59753a145e093b0d36646916a9b49e62ef0f893cb7628d68fe80e", func := "loop.example/g01057/laws.FnExactRideTime", spec := "fnExactRideTime", unfollowed := true, recurses := true, apart := false, narrowed := true }
def FnExactRideTimeUptoSaid : Prop := fnExactRideTimeUptoRow.holds Try.pinned (OpenSpec.upto fnExactRideTimeSpec)

/-- 'laws.FnExactSecondAt', WHERE WHAT IT READS IS OF BULK AT MOST 1048576: true; the input reads as it did. -/
def fnExactSecondAtUptoRow : OpenClaim := { program := "ytmmabkmcgffnpaa", sum := "e11dc3e6bfa59753a145e093b0d36646916a9b49e62ef0f893cb7628d68fe80e", func := "loop.example/g01057/laws.FnExactSecondAt", spec := "fnExactSecondAt", unfollowed := true, recurses := true, apart := false, narrowed := true }
def FnExactSecondAtUptoSaid : Prop := fnExactSecondAtUptoRow.holds Try.pinned (OpenSpec.upto fnExactSecondAtSpec)

/-- 'laws.FnExactSecondsFast', WHERE WHAT IT READS IS OF BULK AT MOST 1048576: true; the input reads as it did. -/
def fnExactSecondsFastUptoRow : OpenClaim := { program := "ytmmabkmcgffnpaa", sum := "e11dc3e6bfa59753a145e093b0d36646916a9b49e62ef0f893cb7628d68fe80e", func := "loop.example/g01057/laws.FnExactSecondsFast", spec := "fnExactSecondsFast", unfollowed := true, recurses := true, apart := false, narrowed := true }
def FnExactSecondsFastUptoSaid : Prop := fnExactSecondsFastUptoRow.holds Try.pinned (OpenSpec.upto fnExactSecondsFastSpec)

/-- 'laws.FnExactPlaceAfter', WHERE WHAT IT READS IS OF BULK AT MOST 1048576: true; the input reads as it did. -/
def fnExactPlaceAfterUptoRow : OpenClaim := { program := "ytmmabkmcgffnpaa", sum := "e11dc3e6bfa59753a145e093b0d36646916a9b49e62ef0f893cb7628d68fe80e", func := "loop.example/g01057/laws.FnExactPlaceAfter", spec := "fnExactPlaceAfter", unfollowed := true, recurses := true, apart := false, narrowed := true }
def FnExactPlaceAfterUptoSaid : Prop := fnExactPlaceAfterUptoRow.holds Try.pinned (OpenSpec.upto fnExactPlaceAfterSpec)

/-- 'laws.FnExactLeastCruise', WHERE WHAT IT READS IS OF BULK AT MOST 1048576: true; the input reads as it did. -/
def fnExactLeastCruiseUptoRow : OpenClaim := { program := "ytmmabkmcgffnpaa", sum := "e11dc3e6bfa59753a145e093b0d36646916a9b49e62ef0f893cb7628d68fe80e", func := "loop.example/g01057/laws.FnExactLeastCruise", spec := "fnExactLeastCruise", unfollowed := true, recurses := true, apart := false, narrowed := true }
def FnExactLeastCruiseUptoSaid : Prop := fnExactLeastCruiseUptoRow.holds Try.pinned (OpenSpec.upto fnExactLeastCruiseSpec)

/-- 'laws.FnProfiles', WHERE WHAT IT READS IS OF BULK AT MOST 1048576: true; the input reads as it did. -/
def fnProfilesUptoRow : OpenClaim := { program := "ytmmabkmcgffnpaa", sum := "e11dc3e6bfa59753a145e093b0d36646916a9b49e62ef0f893cb7628d68fe80e", func := "loop.example/g01057/laws.FnProfiles", spec := "fnProfiles", unfollowed := true, recurses := true, apart := false, narrowed := true }
def FnProfilesUptoSaid : Prop := fnProfilesUptoRow.holds Try.pinned (OpenSpec.upto fnProfilesSpec)

end Rows
end Go.Proofs.Ytmmabkmcgffnpaa
