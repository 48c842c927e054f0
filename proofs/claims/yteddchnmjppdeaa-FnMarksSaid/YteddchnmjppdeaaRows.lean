/-
  No cell of these rows narrows 'for every input' (looked for: loops, veiled, ifaces, maps, wideKeys, modest, calm, conditions, laid).
  DERIVED. THE GIVEN ROWS OF THIS SEAT. 4 by the template 'for every input the law returns true; each argument reads behind the call as it read before'; 0 by the template 'total and deterministic' (their statements: YteddchnmjppdeaaTotals.lean).
  GIVEN WITH THE SEED: the statements are not yours to turn. If you find one false, say at which input.
  Laid BY PROGRAM, IN A SANDBOX (cutbox-rows.mjs): the forced cells as the released guide's own fill.sh prints them over the translation 13f45b6e5b031da2… (all of the seat's roots in one cut). By AI agents, Wed Nov 11 2026. No macro, syntax, notation, axiom, sorry.
-/
import Derived.Test.YteddchnmjppdeaaChecked
import GoSem.Claim
import GoSem.ClaimJoined
import GoSem.ClaimMapViews
import Derived.JoinedTies
import Derived.KernelRfl
namespace Go.Proofs.Yteddchnmjppdeaa
/- THE CELL 'sum', in the pinned program and in every row, IS THE sha256 OF THE DUMP (.gsa) THAT YteddchnmjppdeaaProg.lean LOADS. Nothing in Lean hashes anything: it is a label: what it is worth is what the hold of that sum in a sandbox is worth. -/
noncomputable def Try.pinned : Pinned := { name := "yteddchnmjppdeaa", sum := "13f45b6e5b031da2283b18b5a29b18ddca625ccb0c52a659321c412fde1e7d4d", checked := Try.checked }
namespace Rows
def none {H : Type} : Left H := { results := [], args := [] }

/-- 'laws.FnExactMarksAfter': WHATEVER THE INPUT: true; the input reads as it did. -/
def fnExactMarksAfterSpec : ChangeSpec := { name := "fnExactMarksAfter", fn := fun _ => fun
  | [d1, d2, d3] => { results := [.lit (.bool true)], args := [d1, d2, d3] }
  | _ => none }
def fnExactMarksAfterRow : OpenClaim := { program := "yteddchnmjppdeaa", sum := "13f45b6e5b031da2283b18b5a29b18ddca625ccb0c52a659321c412fde1e7d4d", func := "loop.example/g01057/laws.FnExactMarksAfter", spec := "fnExactMarksAfter", recurses := true, apart := false }
def FnExactMarksAfterSaid : Prop := fnExactMarksAfterRow.holds Try.pinned (OpenSpec.ofChange fnExactMarksAfterSpec)

/-- ITS FALSE NEIGHBOUR: 'it returns false'. Refute it at one input. -/
def fnExactMarksAfterWrong : ChangeSpec := { name := "fnExactMarksAfter", fn := fun _ => fun
  | [d1, d2, d3] => { results := [.lit (.bool false)], args := [d1, d2, d3] }
  | _ => none }
def FnExactMarksAfterWrongFalsely : Prop := fnExactMarksAfterRow.holds Try.pinned (OpenSpec.ofChange fnExactMarksAfterWrong)

/-- 'laws.FnExactShiftFor': WHATEVER THE INPUT: true; the input reads as it did. -/
def fnExactShiftForSpec : ChangeSpec := { name := "fnExactShiftFor", fn := fun _ => fun
  | [d1, d2, d3] => { results := [.lit (.bool true)], args := [d1, d2, d3] }
  | _ => none }
def fnExactShiftForRow : OpenClaim := { program := "yteddchnmjppdeaa", sum := "13f45b6e5b031da2283b18b5a29b18ddca625ccb0c52a659321c412fde1e7d4d", func := "loop.example/g01057/laws.FnExactShiftFor", spec := "fnExactShiftFor", unfollowed := true, recurses := true, apart := false }
def FnExactShiftForSaid : Prop := fnExactShiftForRow.holds Try.pinned (OpenSpec.ofChange fnExactShiftForSpec)

/-- ITS FALSE NEIGHBOUR: 'it returns false'. Refute it at one input. -/
def fnExactShiftForWrong : ChangeSpec := { name := "fnExactShiftFor", fn := fun _ => fun
  | [d1, d2, d3] => { results := [.lit (.bool false)], args := [d1, d2, d3] }
  | _ => none }
def FnExactShiftForWrongFalsely : Prop := fnExactShiftForRow.holds Try.pinned (OpenSpec.ofChange fnExactShiftForWrong)

/-- 'laws.FnMarks': WHATEVER THE INPUT: true; the input reads as it did. -/
def fnMarksSpec : ChangeSpec := { name := "fnMarks", fn := fun _ => fun
  | [d1, d2] => { results := [.lit (.bool true)], args := [d1, d2] }
  | _ => none }
def fnMarksRow : OpenClaim := { program := "yteddchnmjppdeaa", sum := "13f45b6e5b031da2283b18b5a29b18ddca625ccb0c52a659321c412fde1e7d4d", func := "loop.example/g01057/laws.FnMarks", spec := "fnMarks", unfollowed := true, recurses := true, apart := false }
def FnMarksSaid : Prop := fnMarksRow.holds Try.pinned (OpenSpec.ofChange fnMarksSpec)

/-- ITS FALSE NEIGHBOUR: 'it returns false'. Refute it at one input. -/
def fnMarksWrong : ChangeSpec := { name := "fnMarks", fn := fun _ => fun
  | [d1, d2] => { results := [.lit (.bool false)], args := [d1, d2] }
  | _ => none }
def FnMarksWrongFalsely : Prop := fnMarksRow.holds Try.pinned (OpenSpec.ofChange fnMarksWrong)

/-- 'laws.FnLimits': WHATEVER THE INPUT: true; the input reads as it did. -/
def fnLimitsSpec : ChangeSpec := { name := "fnLimits", fn := fun _ => fun
  | [d1, d2] => { results := [.lit (.bool true)], args := [d1, d2] }
  | _ => none }
def fnLimitsRow : OpenClaim := { program := "yteddchnmjppdeaa", sum := "13f45b6e5b031da2283b18b5a29b18ddca625ccb0c52a659321c412fde1e7d4d", func := "loop.example/g01057/laws.FnLimits", spec := "fnLimits", unfollowed := true, recurses := true, apart := false }
def FnLimitsSaid : Prop := fnLimitsRow.holds Try.pinned (OpenSpec.ofChange fnLimitsSpec)

/-- ITS FALSE NEIGHBOUR: 'it returns false'. Refute it at one input. -/
def fnLimitsWrong : ChangeSpec := { name := "fnLimits", fn := fun _ => fun
  | [d1, d2] => { results := [.lit (.bool false)], args := [d1, d2] }
  | _ => none }
def FnLimitsWrongFalsely : Prop := fnLimitsRow.holds Try.pinned (OpenSpec.ofChange fnLimitsWrong)

/- THE SECOND FORM. 'bulk': how many values and letters a reading holds, each counted each time it is reached (what is shared counts as often as it is met; a slice's spare places count too). A statement '..UptoSaid' is the law's where the arguments, and the package variables that the reading takes, are together of bulk at most 1048576: NARROWER than '..Said'. Prove '..Said' where nothing that the law and all that it calls make is longer than what came in: it says more and counts as full. Else prove '..UptoSaid'. A law counts once. -/
mutual
def uptoBulk {H : Type} : DataW H → Nat
  | .lit (.string bytes) => bytes.length + 1
  | .lit _ => 1
  | .nil => 1
  | .ptr d => uptoBulk d + 1
  | .slice elems spare => uptoBulkAll elems + uptoBulkAll spare + 1
  | .agg parts => uptoBulkAll parts + 1
  | .iface _ d => uptoBulk d + 1
  | .map entries => uptoBulkEntries entries + 1
  | .held _ => 1
def uptoBulkAll {H : Type} : List (DataW H) → Nat
  | [] => 0
  | d :: r => uptoBulk d + uptoBulkAll r
def uptoBulkEntries {H : Type} : List (Lit × DataW H) → Nat
  | [] => 0
  | x :: r => uptoBulkEntry x + uptoBulkEntries r
def uptoBulkEntry {H : Type} : Lit × DataW H → Nat
  | (.string bytes, d) => bytes.length + uptoBulk d + 1
  | (_, d) => uptoBulk d + 1
 end
def uptoSmall : (H : Type) → List (DataW H) → Bool := fun _ ds => decide (uptoBulkAll ds ≤ 1048576)
def OpenSpec.upto (s : _root_.Go.ChangeSpec) : _root_.Go.OpenSpec := { _root_.Go.OpenSpec.ofChange s with cond := some uptoSmall }

/-- 'laws.FnExactMarksAfter', WHERE WHAT IT READS IS OF BULK AT MOST 1048576: true; the input reads as it did. -/
def fnExactMarksAfterUptoRow : OpenClaim := { program := "yteddchnmjppdeaa", sum := "13f45b6e5b031da2283b18b5a29b18ddca625ccb0c52a659321c412fde1e7d4d", func := "loop.example/g01057/laws.FnExactMarksAfter", spec := "fnExactMarksAfter", recurses := true, apart := false, narrowed := true }
def FnExactMarksAfterUptoSaid : Prop := fnExactMarksAfterUptoRow.holds Try.pinned (OpenSpec.upto fnExactMarksAfterSpec)

/-- 'laws.FnExactShiftFor', WHERE WHAT IT READS IS OF BULK AT MOST 1048576: true; the input reads as it did. -/
def fnExactShiftForUptoRow : OpenClaim := { program := "yteddchnmjppdeaa", sum := "13f45b6e5b031da2283b18b5a29b18ddca625ccb0c52a659321c412fde1e7d4d", func := "loop.example/g01057/laws.FnExactShiftFor", spec := "fnExactShiftFor", unfollowed := true, recurses := true, apart := false, narrowed := true }
def FnExactShiftForUptoSaid : Prop := fnExactShiftForUptoRow.holds Try.pinned (OpenSpec.upto fnExactShiftForSpec)

/-- 'laws.FnMarks', WHERE WHAT IT READS IS OF BULK AT MOST 1048576: true; the input reads as it did. -/
def fnMarksUptoRow : OpenClaim := { program := "yteddchnmjppdeaa", sum := "13f45b6e5b031da2283b18b5a29b18ddca625ccb0c52a659321c412fde1e7d4d", func := "loop.example/g01057/laws.FnMarks", spec := "fnMarks", unfollowed := true, recurses := true, apart := false, narrowed := true }
def FnMarksUptoSaid : Prop := fnMarksUptoRow.holds Try.pinned (OpenSpec.upto fnMarksSpec)

/-- 'laws.FnLimits', WHERE WHAT IT READS IS OF BULK AT MOST 1048576: true; the input reads as it did. -/
def fnLimitsUptoRow : OpenClaim := { program := "yteddchnmjppdeaa", sum := "13f45b6e5b031da2283b18b5a29b18ddca625ccb0c52a659321c412fde1e7d4d", func := "loop.example/g01057/laws.FnLimits", spec := "fnLimits", unfollowed := true, recurses := true, apart := false, narrowed := true }
def FnLimitsUptoSaid : Prop := fnLimitsUptoRow.holds Try.pinned (OpenSpec.upto fnLimitsSpec)

end Rows
end Go.Proofs.Yteddchnmjppdeaa
