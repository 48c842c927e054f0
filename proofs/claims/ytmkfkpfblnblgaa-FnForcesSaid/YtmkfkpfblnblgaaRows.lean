/-
  No cell of these rows narrows 'for every input' (looked for: loops, veiled, ifaces, maps, wideKeys, modest, calm, conditions, laid).
  DERIVED. THE GIVEN ROWS OF THIS SEAT. 10 by the template 'for every input the law returns true; each argument reads behind the call as it read before'; 0 by the template 'total and deterministic' (their statements: YtmkfkpfblnblgaaTotals.lean).
  GIVEN WITH THE SEED: the statements are not yours to turn. If you find one false, say at which input.
  Laid BY PROGRAM, IN A SANDBOX (cutbox-rows.mjs): the forced cells as the released guide's own fill.sh prints them over the translation 05e70b758c2cce3a… (all of the seat's roots in one cut). By AI agents, Wed Nov 11 2026. No macro, syntax, notation, axiom, sorry.
-/
import Derived.Test.YtmkfkpfblnblgaaChecked
import GoSem.Claim
import GoSem.ClaimJoined
import GoSem.ClaimMapViews
import Derived.JoinedTies
import Derived.KernelRfl
namespace Go.Proofs.Ytmkfkpfblnblgaa
/- THE CELL 'sum', in the pinned program and in every row, IS THE sha256 OF THE DUMP (.gsa) THAT YtmkfkpfblnblgaaProg.lean LOADS. Nothing in Lean hashes anything: it is a label: what it is worth is what the hold of that sum in a sandbox is worth. -/
noncomputable def Try.pinned : Pinned := { name := "ytmkfkpfblnblgaa", sum := "05e70b758c2cce3a214f00646def213ade52c017ff87a254495a2196d361a2fd", checked := Try.checked }
namespace Rows
def none {H : Type} : Left H := { results := [], args := [] }

/-- 'laws.FnExactCarPull': WHATEVER THE INPUT: true; the input reads as it did. -/
def fnExactCarPullSpec : ChangeSpec := { name := "fnExactCarPull", fn := fun _ => fun
  | [d1, d2, d3] => { results := [.lit (.bool true)], args := [d1, d2, d3] }
  | _ => none }
def fnExactCarPullRow : OpenClaim := { program := "ytmkfkpfblnblgaa", sum := "05e70b758c2cce3a214f00646def213ade52c017ff87a254495a2196d361a2fd", func := "loop.example/g01057/laws.FnExactCarPull", spec := "fnExactCarPull", apart := false }
def FnExactCarPullSaid : Prop := fnExactCarPullRow.holds Try.pinned (OpenSpec.ofChange fnExactCarPullSpec)

/-- ITS FALSE NEIGHBOUR: 'it returns false'. Refute it at one input. -/
def fnExactCarPullWrong : ChangeSpec := { name := "fnExactCarPull", fn := fun _ => fun
  | [d1, d2, d3] => { results := [.lit (.bool false)], args := [d1, d2, d3] }
  | _ => none }
def FnExactCarPullWrongFalsely : Prop := fnExactCarPullRow.holds Try.pinned (OpenSpec.ofChange fnExactCarPullWrong)

/-- 'laws.FnExactRopePull': WHATEVER THE INPUT: true; the input reads as it did. -/
def fnExactRopePullSpec : ChangeSpec := { name := "fnExactRopePull", fn := fun _ => fun
  | [d1, d2, d3] => { results := [.lit (.bool true)], args := [d1, d2, d3] }
  | _ => none }
def fnExactRopePullRow : OpenClaim := { program := "ytmkfkpfblnblgaa", sum := "05e70b758c2cce3a214f00646def213ade52c017ff87a254495a2196d361a2fd", func := "loop.example/g01057/laws.FnExactRopePull", spec := "fnExactRopePull", apart := false }
def FnExactRopePullSaid : Prop := fnExactRopePullRow.holds Try.pinned (OpenSpec.ofChange fnExactRopePullSpec)

/-- ITS FALSE NEIGHBOUR: 'it returns false'. Refute it at one input. -/
def fnExactRopePullWrong : ChangeSpec := { name := "fnExactRopePull", fn := fun _ => fun
  | [d1, d2, d3] => { results := [.lit (.bool false)], args := [d1, d2, d3] }
  | _ => none }
def FnExactRopePullWrongFalsely : Prop := fnExactRopePullRow.holds Try.pinned (OpenSpec.ofChange fnExactRopePullWrong)

/-- 'laws.FnExactTensionAt': WHATEVER THE INPUT: true; the input reads as it did. -/
def fnExactTensionAtSpec : ChangeSpec := { name := "fnExactTensionAt", fn := fun _ => fun
  | [d1, d2, d3, d4] => { results := [.lit (.bool true)], args := [d1, d2, d3, d4] }
  | _ => none }
def fnExactTensionAtRow : OpenClaim := { program := "ytmkfkpfblnblgaa", sum := "05e70b758c2cce3a214f00646def213ade52c017ff87a254495a2196d361a2fd", func := "loop.example/g01057/laws.FnExactTensionAt", spec := "fnExactTensionAt", apart := false }
def FnExactTensionAtSaid : Prop := fnExactTensionAtRow.holds Try.pinned (OpenSpec.ofChange fnExactTensionAtSpec)

/-- ITS FALSE NEIGHBOUR: 'it returns false'. Refute it at one input. -/
def fnExactTensionAtWrong : ChangeSpec := { name := "fnExactTensionAt", fn := fun _ => fun
  | [d1, d2, d3, d4] => { results := [.lit (.bool false)], args := [d1, d2, d3, d4] }
  | _ => none }
def FnExactTensionAtWrongFalsely : Prop := fnExactTensionAtRow.holds Try.pinned (OpenSpec.ofChange fnExactTensionAtWrong)

/-- 'laws.FnExactNetPull': WHATEVER THE INPUT: true; the input reads as it did. -/
def fnExactNetPullSpec : ChangeSpec := { name := "fnExactNetPull", fn := fun _ => fun
  | [d1, d2, d3, d4, d5] => { results := [.lit (.bool true)], args := [d1, d2, d3, d4, d5] }
  | _ => none }
def fnExactNetPullRow : OpenClaim := { program := "ytmkfkpfblnblgaa", sum := "05e70b758c2cce3a214f00646def213ade52c017ff87a254495a2196d361a2fd", func := "loop.example/g01057/laws.FnExactNetPull", spec := "fnExactNetPull", apart := false }
def FnExactNetPullSaid : Prop := fnExactNetPullRow.holds Try.pinned (OpenSpec.ofChange fnExactNetPullSpec)

/-- ITS FALSE NEIGHBOUR: 'it returns false'. Refute it at one input. -/
def fnExactNetPullWrong : ChangeSpec := { name := "fnExactNetPull", fn := fun _ => fun
  | [d1, d2, d3, d4, d5] => { results := [.lit (.bool false)], args := [d1, d2, d3, d4, d5] }
  | _ => none }
def FnExactNetPullWrongFalsely : Prop := fnExactNetPullRow.holds Try.pinned (OpenSpec.ofChange fnExactNetPullWrong)

/-- 'laws.FnExactGreatestTension': WHATEVER THE INPUT: true; the input reads as it did. -/
def fnExactGreatestTensionSpec : ChangeSpec := { name := "fnExactGreatestTension", fn := fun _ => fun
  | [d1, d2, d3, d4] => { results := [.lit (.bool true)], args := [d1, d2, d3, d4] }
  | _ => none }
def fnExactGreatestTensionRow : OpenClaim := { program := "ytmkfkpfblnblgaa", sum := "05e70b758c2cce3a214f00646def213ade52c017ff87a254495a2196d361a2fd", func := "loop.example/g01057/laws.FnExactGreatestTension", spec := "fnExactGreatestTension", unfollowed := true, recurses := true, apart := false }
def FnExactGreatestTensionSaid : Prop := fnExactGreatestTensionRow.holds Try.pinned (OpenSpec.ofChange fnExactGreatestTensionSpec)

/-- ITS FALSE NEIGHBOUR: 'it returns false'. Refute it at one input. -/
def fnExactGreatestTensionWrong : ChangeSpec := { name := "fnExactGreatestTension", fn := fun _ => fun
  | [d1, d2, d3, d4] => { results := [.lit (.bool false)], args := [d1, d2, d3, d4] }
  | _ => none }
def FnExactGreatestTensionWrongFalsely : Prop := fnExactGreatestTensionRow.holds Try.pinned (OpenSpec.ofChange fnExactGreatestTensionWrong)

/-- 'laws.FnExactZeroNet': WHATEVER THE INPUT: true; the input reads as it did. -/
def fnExactZeroNetSpec : ChangeSpec := { name := "fnExactZeroNet", fn := fun _ => fun
  | [d1, d2, d3, d4, d5] => { results := [.lit (.bool true)], args := [d1, d2, d3, d4, d5] }
  | _ => none }
def fnExactZeroNetRow : OpenClaim := { program := "ytmkfkpfblnblgaa", sum := "05e70b758c2cce3a214f00646def213ade52c017ff87a254495a2196d361a2fd", func := "loop.example/g01057/laws.FnExactZeroNet", spec := "fnExactZeroNet", apart := false }
def FnExactZeroNetSaid : Prop := fnExactZeroNetRow.holds Try.pinned (OpenSpec.ofChange fnExactZeroNetSpec)

/-- ITS FALSE NEIGHBOUR: 'it returns false'. Refute it at one input. -/
def fnExactZeroNetWrong : ChangeSpec := { name := "fnExactZeroNet", fn := fun _ => fun
  | [d1, d2, d3, d4, d5] => { results := [.lit (.bool false)], args := [d1, d2, d3, d4, d5] }
  | _ => none }
def FnExactZeroNetWrongFalsely : Prop := fnExactZeroNetRow.holds Try.pinned (OpenSpec.ofChange fnExactZeroNetWrong)

/-- 'laws.FnExactWorkOf': WHATEVER THE INPUT: true; the input reads as it did. -/
def fnExactWorkOfSpec : ChangeSpec := { name := "fnExactWorkOf", fn := fun _ => fun
  | [d1, d2, d3, d4, d5] => { results := [.lit (.bool true)], args := [d1, d2, d3, d4, d5] }
  | _ => none }
def fnExactWorkOfRow : OpenClaim := { program := "ytmkfkpfblnblgaa", sum := "05e70b758c2cce3a214f00646def213ade52c017ff87a254495a2196d361a2fd", func := "loop.example/g01057/laws.FnExactWorkOf", spec := "fnExactWorkOf", apart := false }
def FnExactWorkOfSaid : Prop := fnExactWorkOfRow.holds Try.pinned (OpenSpec.ofChange fnExactWorkOfSpec)

/-- ITS FALSE NEIGHBOUR: 'it returns false'. Refute it at one input. -/
def fnExactWorkOfWrong : ChangeSpec := { name := "fnExactWorkOf", fn := fun _ => fun
  | [d1, d2, d3, d4, d5] => { results := [.lit (.bool false)], args := [d1, d2, d3, d4, d5] }
  | _ => none }
def FnExactWorkOfWrongFalsely : Prop := fnExactWorkOfRow.holds Try.pinned (OpenSpec.ofChange fnExactWorkOfWrong)

/-- 'laws.FnExactBalanceKilos': WHATEVER THE INPUT: true; the input reads as it did. -/
def fnExactBalanceKilosSpec : ChangeSpec := { name := "fnExactBalanceKilos", fn := fun _ => fun
  | [d1, d2, d3, d4] => { results := [.lit (.bool true)], args := [d1, d2, d3, d4] }
  | _ => none }
def fnExactBalanceKilosRow : OpenClaim := { program := "ytmkfkpfblnblgaa", sum := "05e70b758c2cce3a214f00646def213ade52c017ff87a254495a2196d361a2fd", func := "loop.example/g01057/laws.FnExactBalanceKilos", spec := "fnExactBalanceKilos", unfollowed := true, recurses := true, apart := false }
def FnExactBalanceKilosSaid : Prop := fnExactBalanceKilosRow.holds Try.pinned (OpenSpec.ofChange fnExactBalanceKilosSpec)

/-- ITS FALSE NEIGHBOUR: 'it returns false'. Refute it at one input. -/
def fnExactBalanceKilosWrong : ChangeSpec := { name := "fnExactBalanceKilos", fn := fun _ => fun
  | [d1, d2, d3, d4] => { results := [.lit (.bool false)], args := [d1, d2, d3, d4] }
  | _ => none }
def FnExactBalanceKilosWrongFalsely : Prop := fnExactBalanceKilosRow.holds Try.pinned (OpenSpec.ofChange fnExactBalanceKilosWrong)

/-- 'laws.FnExactGreatestNet': WHATEVER THE INPUT: true; the input reads as it did. -/
def fnExactGreatestNetSpec : ChangeSpec := { name := "fnExactGreatestNet", fn := fun _ => fun
  | [d1, d2, d3, d4, d5] => { results := [.lit (.bool true)], args := [d1, d2, d3, d4, d5] }
  | _ => none }
def fnExactGreatestNetRow : OpenClaim := { program := "ytmkfkpfblnblgaa", sum := "05e70b758c2cce3a214f00646def213ade52c017ff87a254495a2196d361a2fd", func := "loop.example/g01057/laws.FnExactGreatestNet", spec := "fnExactGreatestNet", unfollowed := true, recurses := true, apart := false }
def FnExactGreatestNetSaid : Prop := fnExactGreatestNetRow.holds Try.pinned (OpenSpec.ofChange fnExactGreatestNetSpec)

/-- ITS FALSE NEIGHBOUR: 'it returns false'. Refute it at one input. -/
def fnExactGreatestNetWrong : ChangeSpec := { name := "fnExactGreatestNet", fn := fun _ => fun
  | [d1, d2, d3, d4, d5] => { results := [.lit (.bool false)], args := [d1, d2, d3, d4, d5] }
  | _ => none }
def FnExactGreatestNetWrongFalsely : Prop := fnExactGreatestNetRow.holds Try.pinned (OpenSpec.ofChange fnExactGreatestNetWrong)

/-- 'laws.FnForces': WHATEVER THE INPUT: true; the input reads as it did. -/
def fnForcesSpec : ChangeSpec := { name := "fnForces", fn := fun _ => fun
  | [d1, d2] => { results := [.lit (.bool true)], args := [d1, d2] }
  | _ => none }
def fnForcesRow : OpenClaim := { program := "ytmkfkpfblnblgaa", sum := "05e70b758c2cce3a214f00646def213ade52c017ff87a254495a2196d361a2fd", func := "loop.example/g01057/laws.FnForces", spec := "fnForces", unfollowed := true, recurses := true, apart := false }
def FnForcesSaid : Prop := fnForcesRow.holds Try.pinned (OpenSpec.ofChange fnForcesSpec)

/-- ITS FALSE NEIGHBOUR: 'it returns false'. Refute it at one input. -/
def fnForcesWrong : ChangeSpec := { name := "fnForces", fn := fun _ => fun
  | [d1, d2] => { results := [.lit (.bool false)], args := [d1, d2] }
  | _ => none }
def FnForcesWrongFalsely : Prop := fnForcesRow.holds Try.pinned (OpenSpec.ofChange fnForcesWrong)

/- THE SECOND FORM. 'bulk': how many values and letters a reading holds, each counted each time it is reached (what is shared counts as often as it is met; a slice's spare places count too). A statement '..UptoSaid' is the law's where the arguments, and the package variables that the reading takes, are together of bulk at most 1048576: NARROWER than '..Said'. Prove '..Said' where nothing that the law and all that it calls make is longer than what came in: it says more and counts as full. Else prove '..UptoSaid'. A law counts once. -/
mutual
def uptoBulk {H : Type} : DataW H → Nat
  | .lit (.string bytes) => bytes.length + 1
  | .lit _ => 1
  | .nil => 1
  | .ptr d => uptoBulk d + 1
  | .slice elems spare => uptoBulkAll elems + uptoBulkAll spare + 1
  | .agg parts => uptoBulkAll parts + 1
  | .iface _ d => uptoBulk d + 1
  | .map entries => uptoBulkEntries entries + 1
  | .held _ => 1
def uptoBulkAll {H : Type} : List (DataW H) → Nat
  | [] => 0
  | d :: r => uptoBulk d + uptoBulkAll r
def uptoBulkEntries {H : Type} : List (Lit × DataW H) → Nat
  | [] => 0
  | x :: r => uptoBulkEntry x + uptoBulkEntries r
def uptoBulkEntry {H : Type} : Lit × DataW H → Nat
  | (.string bytes, d) => bytes.length + uptoBulk d + 1
  | (_, d) => uptoBulk d + 1
 end
def uptoSmall : (H : Type) → List (DataW H) → Bool := fun _ ds => decide (uptoBulkAll ds ≤ 1048576)
def OpenSpec.upto (s : _root_.Go.ChangeSpec) : _root_.Go.OpenSpec := { _root_.Go.OpenSpec.ofChange s with cond := some uptoSmall }

/-- 'laws.FnExactCarPull', WHERE WHAT IT READS IS OF BULK AT MOST 1048576: true; the input reads as it did. -/
def fnExactCarPullUptoRow : OpenClaim := { program := "ytmkfkpfblnblgaa", sum := "05e70b758c2cce3a214f00646def213ade52c017ff87a254495a2196d361a2fd", func := "loop.example/g01057/laws.FnExactCarPull", spec := "fnExactCarPull", apart := false, narrowed := true }
def FnExactCarPullUptoSaid : Prop := fnExactCarPullUptoRow.holds Try.pinned (OpenSpec.upto fnExactCarPullSpec)

/-- 'laws.FnExactRopePull', WHERE WHAT IT READS IS OF BULK AT MOST 1048576: true; the input reads as it did. -/
def fnExactRopePullUptoRow : OpenClaim := { program := "ytmkfkpfblnblgaa", sum := "05e70b758c2cce3a214f00646def213ade52c017ff87a254495a2196d361a2fd", func := "loop.example/g01057/laws.FnExactRopePull", spec := "fnExactRopePull", apart := false, narrowed := true }
def FnExactRopePullUptoSaid : Prop := fnExactRopePullUptoRow.holds Try.pinned (OpenSpec.upto fnExactRopePullSpec)

/-- 'laws.FnExactTensionAt', WHERE WHAT IT READS IS OF BULK AT MOST 1048576: true; the input reads as it did. -/
def fnExactTensionAtUptoRow : OpenClaim := { program := "ytmkfkpfblnblgaa", sum := "05e70b758c2cce3a214f00646def213ade52c017ff87a254495a2196d361a2fd", func := "loop.example/g01057/laws.FnExactTensionAt", spec := "fnExactTensionAt", apart := false, narrowed := true }
def FnExactTensionAtUptoSaid : Prop := fnExactTensionAtUptoRow.holds Try.pinned (OpenSpec.upto fnExactTensionAtSpec)

/-- 'laws.FnExactNetPull', WHERE WHAT IT READS IS OF BULK AT MOST 1048576: true; the input reads as it did. -/
def fnExactNetPullUptoRow : OpenClaim := { program := "ytmkfkpfblnblgaa", sum := "05e70b758c2cce3a214f00646def213ade52c017ff87a254495a2196d361a2fd", func := "loop.example/g01057/laws.FnExactNetPull", spec := "fnExactNetPull", apart := false, narrowed := true }
def FnExactNetPullUptoSaid : Prop := fnExactNetPullUptoRow.holds Try.pinned (OpenSpec.upto fnExactNetPullSpec)

/-- 'laws.FnExactGreatestTension', WHERE WHAT IT READS IS OF BULK AT MOST 1048576: true; the input reads as it did. -/
def fnExactGreatestTensionUptoRow : OpenClaim := { program := "ytmkfkpfblnblgaa", sum := "05e70b758c2cce3a214f00646def213ade52c017ff87a254495a2196d361a2fd", func := "loop.example/g01057/laws.FnExactGreatestTension", spec := "fnExactGreatestTension", unfollowed := true, recurses := true, apart := false, narrowed := true }
def FnExactGreatestTensionUptoSaid : Prop := fnExactGreatestTensionUptoRow.holds Try.pinned (OpenSpec.upto fnExactGreatestTensionSpec)

/-- 'laws.FnExactZeroNet', WHERE WHAT IT READS IS OF BULK AT MOST 1048576: true; the input reads as it did. -/
def fnExactZeroNetUptoRow : OpenClaim := { program := "ytmkfkpfblnblgaa", sum := "05e70b758c2cce3a214f00646def213ade52c017ff87a254495a2196d361a2fd", func := "loop.example/g01057/laws.FnExactZeroNet", spec := "fnExactZeroNet", apart := false, narrowed := true }
def FnExactZeroNetUptoSaid : Prop := fnExactZeroNetUptoRow.holds Try.pinned (OpenSpec.upto fnExactZeroNetSpec)

/-- 'laws.FnExactWorkOf', WHERE WHAT IT READS IS OF BULK AT MOST 1048576: true; the input reads as it did. -/
def fnExactWorkOfUptoRow : OpenClaim := { program := "ytmkfkpfblnblgaa", sum := "05e70b758c2cce3a214f00646def213ade52c017ff87a254495a2196d361a2fd", func := "loop.example/g01057/laws.FnExactWorkOf", spec := "fnExactWorkOf", apart := false, narrowed := true }
def FnExactWorkOfUptoSaid : Prop := fnExactWorkOfUptoRow.holds Try.pinned (OpenSpec.upto fnExactWorkOfSpec)

/-- 'laws.FnExactBalanceKilos', WHERE WHAT IT READS IS OF BULK AT MOST 1048576: true; the input reads as it did. -/
def fnExactBalanceKilosUptoRow : OpenClaim := { program := "ytmkfkpfblnblgaa", sum := "05e70b758c2cce3a214f00646def213ade52c017ff87a254495a2196d361a2fd", func := "loop.example/g01057/laws.FnExactBalanceKilos", spec := "fnExactBalanceKilos", unfollowed := true, recurses := true, apart := false, narrowed := true }
def FnExactBalanceKilosUptoSaid : Prop := fnExactBalanceKilosUptoRow.holds Try.pinned (OpenSpec.upto fnExactBalanceKilosSpec)

/-- 'laws.FnExactGreatestNet', WHERE WHAT IT READS IS OF BULK AT MOST 1048576: true; the input reads as it did. -/
def fnExactGreatestNetUptoRow : OpenClaim := { program := "ytmkfkpfblnblgaa", sum := "05e70b758c2cce3a214f00646def213ade52c017ff87a254495a2196d361a2fd", func := "loop.example/g01057/laws.FnExactGreatestNet", spec := "fnExactGreatestNet", unfollowed := true, recurses := true, apart := false, narrowed := true }
def FnExactGreatestNetUptoSaid : Prop := fnExactGreatestNetUptoRow.holds Try.pinned (OpenSpec.upto fnExactGreatestNetSpec)

/-- 'laws.FnForces', WHERE WHAT IT READS IS OF BULK AT MOST 1048576: true; the input reads as it did. -/
def fnForcesUptoRow : OpenClaim := { program := "ytmkfkpfblnblgaa", sum := "05e70b758c2cce3a214f00646def213ade52c017ff87a254495a2196d361a2fd", func := "loop.example/g01057/laws.FnForces", spec := "fnForces", unfollowed := true, recurses := true, apart := false, narrowed := true }
def FnForcesUptoSaid : Prop := fnForcesUptoRow.holds Try.pinned (OpenSpec.upto fnForcesSpec)

end Rows
end Go.Proofs.Ytmkfkpfblnblgaa
