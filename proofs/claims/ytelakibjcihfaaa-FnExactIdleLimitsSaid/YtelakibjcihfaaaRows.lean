/-
  No cell of these rows narrows 'for every input' (looked for: loops, veiled, ifaces, maps, wideKeys, modest, calm, conditions, laid).
  DERIVED. THE GIVEN ROWS OF THIS SEAT. 10 by the template 'for every input the law returns true; each argument reads behind the call as it read before'; 0 by the template 'total and deterministic' (their statements: YtelakibjcihfaaaTotals.lean).
  GIVEN WITH THE SEED: the statements are not yours to turn. If you find one false, say at which input.
  Laid BY PROGRAM, IN A SANDBOX (cutbox-rows.mjs): the forced cells as the released guide's own fill.sh prints them over the translation db58b09eb2439e89… (all of the seat's roots in one cut). By AI agents, Wed Nov 11 2026. No macro, syntax, notation, axiom, sorry.
-/
import Derived.Test.YtelakibjcihfaaaChecked
import GoSem.Claim
import GoSem.ClaimJoined
import GoSem.ClaimMapViews
import Derived.JoinedTies
import Derived.KernelRfl
namespace Go.Proofs.Ytelakibjcihfaaa
/- THE CELL 'sum', in the pinned program and in every row, IS THE sha256 OF THE DUMP (.gsa) THAT YtelakibjcihfaaaProg.lean LOADS. Nothing in Lean hashes anything: it is a label: what it is worth is what the hold of that sum in a sandbox is worth. -/
noncomputable def Try.pinned : Pinned := { name := "ytelakibjcihfaaa", sum := "db58b09eb2439e8926a9724cdf48bcad2aa79054c2a8c1b579816d9c2387d79d", checked := Try.checked }
namespace Rows
def none {H : Type} : Left H := { results := [], args := [] }

/-- 'laws.FnExactValidHours': WHATEVER THE INPUT: true; the input reads as it did. -/
def fnExactValidHoursSpec : ChangeSpec := { name := "fnExactValidHours", fn := fun _ => fun
  | [d] => { results := [.lit (.bool true)], args := [d] }
  | _ => none }
def fnExactValidHoursRow : OpenClaim := { program := "ytelakibjcihfaaa", sum := "db58b09eb2439e8926a9724cdf48bcad2aa79054c2a8c1b579816d9c2387d79d", func := "loop.example/g01057/laws.FnExactValidHours", spec := "fnExactValidHours", unfollowed := true, recurses := true, apart := false }
def FnExactValidHoursSaid : Prop := fnExactValidHoursRow.holds Try.pinned (OpenSpec.ofChange fnExactValidHoursSpec)

/-- ITS FALSE NEIGHBOUR: 'it returns false'. Refute it at one input. -/
def fnExactValidHoursWrong : ChangeSpec := { name := "fnExactValidHours", fn := fun _ => fun
  | [d] => { results := [.lit (.bool false)], args := [d] }
  | _ => none }
def FnExactValidHoursWrongFalsely : Prop := fnExactValidHoursRow.holds Try.pinned (OpenSpec.ofChange fnExactValidHoursWrong)

/-- 'laws.FnExactValidLimits': WHATEVER THE INPUT: true; the input reads as it did. -/
def fnExactValidLimitsSpec : ChangeSpec := { name := "fnExactValidLimits", fn := fun _ => fun
  | [d] => { results := [.lit (.bool true)], args := [d] }
  | _ => none }
def fnExactValidLimitsRow : OpenClaim := { program := "ytelakibjcihfaaa", sum := "db58b09eb2439e8926a9724cdf48bcad2aa79054c2a8c1b579816d9c2387d79d", func := "loop.example/g01057/laws.FnExactValidLimits", spec := "fnExactValidLimits", unfollowed := true, recurses := true, apart := false }
def FnExactValidLimitsSaid : Prop := fnExactValidLimitsRow.holds Try.pinned (OpenSpec.ofChange fnExactValidLimitsSpec)

/-- ITS FALSE NEIGHBOUR: 'it returns false'. Refute it at one input. -/
def fnExactValidLimitsWrong : ChangeSpec := { name := "fnExactValidLimits", fn := fun _ => fun
  | [d] => { results := [.lit (.bool false)], args := [d] }
  | _ => none }
def FnExactValidLimitsWrongFalsely : Prop := fnExactValidLimitsRow.holds Try.pinned (OpenSpec.ofChange fnExactValidLimitsWrong)

/-- 'laws.FnExactSteepestStop': WHATEVER THE INPUT: true; the input reads as it did. -/
def fnExactSteepestStopSpec : ChangeSpec := { name := "fnExactSteepestStop", fn := fun _ => fun
  | [d1, d2] => { results := [.lit (.bool true)], args := [d1, d2] }
  | _ => none }
def fnExactSteepestStopRow : OpenClaim := { program := "ytelakibjcihfaaa", sum := "db58b09eb2439e8926a9724cdf48bcad2aa79054c2a8c1b579816d9c2387d79d", func := "loop.example/g01057/laws.FnExactSteepestStop", spec := "fnExactSteepestStop", apart := false }
def FnExactSteepestStopSaid : Prop := fnExactSteepestStopRow.holds Try.pinned (OpenSpec.ofChange fnExactSteepestStopSpec)

/-- ITS FALSE NEIGHBOUR: 'it returns false'. Refute it at one input. -/
def fnExactSteepestStopWrong : ChangeSpec := { name := "fnExactSteepestStop", fn := fun _ => fun
  | [d1, d2] => { results := [.lit (.bool false)], args := [d1, d2] }
  | _ => none }
def FnExactSteepestStopWrongFalsely : Prop := fnExactSteepestStopRow.holds Try.pinned (OpenSpec.ofChange fnExactSteepestStopWrong)

/-- 'laws.FnExactKindsOf': WHATEVER THE INPUT: true; the input reads as it did. -/
def fnExactKindsOfSpec : ChangeSpec := { name := "fnExactKindsOf", fn := fun _ => fun
  | [d] => { results := [.lit (.bool true)], args := [d] }
  | _ => none }
def fnExactKindsOfRow : OpenClaim := { program := "ytelakibjcihfaaa", sum := "db58b09eb2439e8926a9724cdf48bcad2aa79054c2a8c1b579816d9c2387d79d", func := "loop.example/g01057/laws.FnExactKindsOf", spec := "fnExactKindsOf", apart := false }
def FnExactKindsOfSaid : Prop := fnExactKindsOfRow.holds Try.pinned (OpenSpec.ofChange fnExactKindsOfSpec)

/-- ITS FALSE NEIGHBOUR: 'it returns false'. Refute it at one input. -/
def fnExactKindsOfWrong : ChangeSpec := { name := "fnExactKindsOf", fn := fun _ => fun
  | [d] => { results := [.lit (.bool false)], args := [d] }
  | _ => none }
def FnExactKindsOfWrongFalsely : Prop := fnExactKindsOfRow.holds Try.pinned (OpenSpec.ofChange fnExactKindsOfWrong)

/-- 'laws.FnExactSandFor': WHATEVER THE INPUT: true; the input reads as it did. -/
def fnExactSandForSpec : ChangeSpec := { name := "fnExactSandFor", fn := fun _ => fun
  | [d1, d2] => { results := [.lit (.bool true)], args := [d1, d2] }
  | _ => none }
def fnExactSandForRow : OpenClaim := { program := "ytelakibjcihfaaa", sum := "db58b09eb2439e8926a9724cdf48bcad2aa79054c2a8c1b579816d9c2387d79d", func := "loop.example/g01057/laws.FnExactSandFor", spec := "fnExactSandFor", unfollowed := true, recurses := true, apart := false }
def FnExactSandForSaid : Prop := fnExactSandForRow.holds Try.pinned (OpenSpec.ofChange fnExactSandForSpec)

/-- ITS FALSE NEIGHBOUR: 'it returns false'. Refute it at one input. -/
def fnExactSandForWrong : ChangeSpec := { name := "fnExactSandFor", fn := fun _ => fun
  | [d1, d2] => { results := [.lit (.bool false)], args := [d1, d2] }
  | _ => none }
def FnExactSandForWrongFalsely : Prop := fnExactSandForRow.holds Try.pinned (OpenSpec.ofChange fnExactSandForWrong)

/-- 'laws.FnExactLongestGood': WHATEVER THE INPUT: true; the input reads as it did. -/
def fnExactLongestGoodSpec : ChangeSpec := { name := "fnExactLongestGood", fn := fun _ => fun
  | [d1, d2] => { results := [.lit (.bool true)], args := [d1, d2] }
  | _ => none }
def fnExactLongestGoodRow : OpenClaim := { program := "ytelakibjcihfaaa", sum := "db58b09eb2439e8926a9724cdf48bcad2aa79054c2a8c1b579816d9c2387d79d", func := "loop.example/g01057/laws.FnExactLongestGood", spec := "fnExactLongestGood", unfollowed := true, recurses := true, apart := false }
def FnExactLongestGoodSaid : Prop := fnExactLongestGoodRow.holds Try.pinned (OpenSpec.ofChange fnExactLongestGoodSpec)

/-- ITS FALSE NEIGHBOUR: 'it returns false'. Refute it at one input. -/
def fnExactLongestGoodWrong : ChangeSpec := { name := "fnExactLongestGood", fn := fun _ => fun
  | [d1, d2] => { results := [.lit (.bool false)], args := [d1, d2] }
  | _ => none }
def FnExactLongestGoodWrongFalsely : Prop := fnExactLongestGoodRow.holds Try.pinned (OpenSpec.ofChange fnExactLongestGoodWrong)

/-- 'laws.FnExactHeaterHours': WHATEVER THE INPUT: true; the input reads as it did. -/
def fnExactHeaterHoursSpec : ChangeSpec := { name := "fnExactHeaterHours", fn := fun _ => fun
  | [d1, d2] => { results := [.lit (.bool true)], args := [d1, d2] }
  | _ => none }
def fnExactHeaterHoursRow : OpenClaim := { program := "ytelakibjcihfaaa", sum := "db58b09eb2439e8926a9724cdf48bcad2aa79054c2a8c1b579816d9c2387d79d", func := "loop.example/g01057/laws.FnExactHeaterHours", spec := "fnExactHeaterHours", unfollowed := true, recurses := true, apart := false }
def FnExactHeaterHoursSaid : Prop := fnExactHeaterHoursRow.holds Try.pinned (OpenSpec.ofChange fnExactHeaterHoursSpec)

/-- ITS FALSE NEIGHBOUR: 'it returns false'. Refute it at one input. -/
def fnExactHeaterHoursWrong : ChangeSpec := { name := "fnExactHeaterHours", fn := fun _ => fun
  | [d1, d2] => { results := [.lit (.bool false)], args := [d1, d2] }
  | _ => none }
def FnExactHeaterHoursWrongFalsely : Prop := fnExactHeaterHoursRow.holds Try.pinned (OpenSpec.ofChange fnExactHeaterHoursWrong)

/-- 'laws.FnExactIdleLimits': WHATEVER THE INPUT: true; the input reads as it did. -/
def fnExactIdleLimitsSpec : ChangeSpec := { name := "fnExactIdleLimits", fn := fun _ => fun
  | [d] => { results := [.lit (.bool true)], args := [d] }
  | _ => none }
def fnExactIdleLimitsRow : OpenClaim := { program := "ytelakibjcihfaaa", sum := "db58b09eb2439e8926a9724cdf48bcad2aa79054c2a8c1b579816d9c2387d79d", func := "loop.example/g01057/laws.FnExactIdleLimits", spec := "fnExactIdleLimits", unfollowed := true, recurses := true, apart := false }
def FnExactIdleLimitsSaid : Prop := fnExactIdleLimitsRow.holds Try.pinned (OpenSpec.ofChange fnExactIdleLimitsSpec)

/-- ITS FALSE NEIGHBOUR: 'it returns false'. Refute it at one input. -/
def fnExactIdleLimitsWrong : ChangeSpec := { name := "fnExactIdleLimits", fn := fun _ => fun
  | [d] => { results := [.lit (.bool false)], args := [d] }
  | _ => none }
def FnExactIdleLimitsWrongFalsely : Prop := fnExactIdleLimitsRow.holds Try.pinned (OpenSpec.ofChange fnExactIdleLimitsWrong)

/-- 'laws.FnExactSpeedAllowed': WHATEVER THE INPUT: true; the input reads as it did. -/
def fnExactSpeedAllowedSpec : ChangeSpec := { name := "fnExactSpeedAllowed", fn := fun _ => fun
  | [d1, d2, d3] => { results := [.lit (.bool true)], args := [d1, d2, d3] }
  | _ => none }
def fnExactSpeedAllowedRow : OpenClaim := { program := "ytelakibjcihfaaa", sum := "db58b09eb2439e8926a9724cdf48bcad2aa79054c2a8c1b579816d9c2387d79d", func := "loop.example/g01057/laws.FnExactSpeedAllowed", spec := "fnExactSpeedAllowed", unfollowed := true, recurses := true, apart := false }
def FnExactSpeedAllowedSaid : Prop := fnExactSpeedAllowedRow.holds Try.pinned (OpenSpec.ofChange fnExactSpeedAllowedSpec)

/-- ITS FALSE NEIGHBOUR: 'it returns false'. Refute it at one input. -/
def fnExactSpeedAllowedWrong : ChangeSpec := { name := "fnExactSpeedAllowed", fn := fun _ => fun
  | [d1, d2, d3] => { results := [.lit (.bool false)], args := [d1, d2, d3] }
  | _ => none }
def FnExactSpeedAllowedWrongFalsely : Prop := fnExactSpeedAllowedRow.holds Try.pinned (OpenSpec.ofChange fnExactSpeedAllowedWrong)

/-- 'laws.FnExactHoursToRun': WHATEVER THE INPUT: true; the input reads as it did. -/
def fnExactHoursToRunSpec : ChangeSpec := { name := "fnExactHoursToRun", fn := fun _ => fun
  | [d1, d2] => { results := [.lit (.bool true)], args := [d1, d2] }
  | _ => none }
def fnExactHoursToRunRow : OpenClaim := { program := "ytelakibjcihfaaa", sum := "db58b09eb2439e8926a9724cdf48bcad2aa79054c2a8c1b579816d9c2387d79d", func := "loop.example/g01057/laws.FnExactHoursToRun", spec := "fnExactHoursToRun", unfollowed := true, recurses := true, apart := false }
def FnExactHoursToRunSaid : Prop := fnExactHoursToRunRow.holds Try.pinned (OpenSpec.ofChange fnExactHoursToRunSpec)

/-- ITS FALSE NEIGHBOUR: 'it returns false'. Refute it at one input. -/
def fnExactHoursToRunWrong : ChangeSpec := { name := "fnExactHoursToRun", fn := fun _ => fun
  | [d1, d2] => { results := [.lit (.bool false)], args := [d1, d2] }
  | _ => none }
def FnExactHoursToRunWrongFalsely : Prop := fnExactHoursToRunRow.holds Try.pinned (OpenSpec.ofChange fnExactHoursToRunWrong)

/- THE SECOND FORM. 'bulk': how many values and letters a reading holds, each counted each time it is reached (what is shared counts as often as it is met; a slice's spare places count too). A statement '..UptoSaid' is the law's where the arguments, and the package variables that the reading takes, are together of bulk at most 1048576: NARROWER than '..Said'. Prove '..Said' where nothing that the law and all that it calls make is longer than what came in: it says more and counts as full. Else prove '..UptoSaid'. A law counts once. -/
mutual
def uptoBulk {H : Type} : DataW H → Nat
  | .lit (.string bytes) => bytes.length + 1
  | .lit _ => 1
  | .nil => 1
  | .ptr d => uptoBulk d + 1
  | .slice elems spare => uptoBulkAll elems + uptoBulkAll spare + 1
  | .agg parts => uptoBulkAll parts + 1
  | .iface _ d => uptoBulk d + 1
  | .map entries => uptoBulkEntries entries + 1
  | .held _ => 1
def uptoBulkAll {H : Type} : List (DataW H) → Nat
  | [] => 0
  | d :: r => uptoBulk d + uptoBulkAll r
def uptoBulkEntries {H : Type} : List (Lit × DataW H) → Nat
  | [] => 0
  | x :: r => uptoBulkEntry x + uptoBulkEntries r
def uptoBulkEntry {H : Type} : Lit × DataW H → Nat
  | (.string bytes, d) => bytes.length + uptoBulk d + 1
  | (_, d) => uptoBulk d + 1
 end
def uptoSmall : (H : Type) → List (DataW H) → Bool := fun _ ds => decide (uptoBulkAll ds ≤ 1048576)
def OpenSpec.upto (s : _root_.Go.ChangeSpec) : _root_.Go.OpenSpec := { _root_.Go.OpenSpec.ofChange s with cond := some uptoSmall }

/-- 'laws.FnExactValidHours', WHERE WHAT IT READS IS OF BULK AT MOST 1048576: true; the input reads as it did. -/
def fnExactValidHoursUptoRow : OpenClaim := { program := "ytelakibjcihfaaa", sum := "db58b09eb2439e8926a9724cdf48bcad2aa79054c2a8c1b579816d9c2387d79d", func := "loop.example/g01057/laws.FnExactValidHours", spec := "fnExactValidHours", unfollowed := true, recurses := true, apart := false, narrowed := true }
def FnExactValidHoursUptoSaid : Prop := fnExactValidHoursUptoRow.holds Try.pinned (OpenSpec.upto fnExactValidHoursSpec)

/-- 'laws.FnExactValidLimits', WHERE WHAT IT READS IS OF BULK AT MOST 1048576: true; the input reads as it did. -/
def fnExactValidLimitsUptoRow : OpenClaim := { program := "ytelakibjcihfaaa", sum := "db58b09eb2439e8926a9724cdf48bcad2aa79054c2a8c1b579816d9c2387d79d", func := "loop.example/g01057/laws.FnExactValidLimits", spec := "fnExactValidLimits", unfollowed := true, recurses := true, apart := false, narrowed := true }
def FnExactValidLimitsUptoSaid : Prop := fnExactValidLimitsUptoRow.holds Try.pinned (OpenSpec.upto fnExactValidLimitsSpec)

/-- 'laws.FnExactSteepestStop', WHERE WHAT IT READS IS OF BULK AT MOST 1048576: true; the input reads as it did. -/
def fnExactSteepestStopUptoRow : OpenClaim := { program := "ytelakibjcihfaaa", sum := "db58b09eb2439e8926a9724cdf48bcad2aa79054c2a8c1b579816d9c2387d79d", func := "loop.example/g01057/laws.FnExactSteepestStop", spec := "fnExactSteepestStop", apart := false, narrowed := true }
def FnExactSteepestStopUptoSaid : Prop := fnExactSteepestStopUptoRow.holds Try.pinned (OpenSpec.upto fnExactSteepestStopSpec)

/-- 'laws.FnExactKindsOf', WHERE WHAT IT READS IS OF BULK AT MOST 1048576: true; the input reads as it did. -/
def fnExactKindsOfUptoRow : OpenClaim := { program := "ytelakibjcihfaaa", sum := "db58b09eb2439e8926a9724cdf48bcad2aa79054c2a8c1b579816d9c2387d79d", func := "loop.example/g01057/laws.FnExactKindsOf", spec := "fnExactKindsOf", apart := false, narrowed := true }
def FnExactKindsOfUptoSaid : Prop := fnExactKindsOfUptoRow.holds Try.pinned (OpenSpec.upto fnExactKindsOfSpec)

/-- 'laws.FnExactSandFor', WHERE WHAT IT READS IS OF BULK AT MOST 1048576: true; the input reads as it did. -/
def fnExactSandForUptoRow : OpenClaim := { program := "ytelakibjcihfaaa", sum := "db58b09eb2439e8926a9724cdf48bcad2aa79054c2a8c1b579816d9c2387d79d", func := "loop.example/g01057/laws.FnExactSandFor", spec := "fnExactSandFor", unfollowed := true, recurses := true, apart := false, narrowed := true }
def FnExactSandForUptoSaid : Prop := fnExactSandForUptoRow.holds Try.pinned (OpenSpec.upto fnExactSandForSpec)

/-- 'laws.FnExactLongestGood', WHERE WHAT IT READS IS OF BULK AT MOST 1048576: true; the input reads as it did. -/
def fnExactLongestGoodUptoRow : OpenClaim := { program := "ytelakibjcihfaaa", sum := "db58b09eb2439e8926a9724cdf48bcad2aa79054c2a8c1b579816d9c2387d79d", func := "loop.example/g01057/laws.FnExactLongestGood", spec := "fnExactLongestGood", unfollowed := true, recurses := true, apart := false, narrowed := true }
def FnExactLongestGoodUptoSaid : Prop := fnExactLongestGoodUptoRow.holds Try.pinned (OpenSpec.upto fnExactLongestGoodSpec)

/-- 'laws.FnExactHeaterHours', WHERE WHAT IT READS IS OF BULK AT MOST 1048576: true; the input reads as it did. -/
def fnExactHeaterHoursUptoRow : OpenClaim := { program := "ytelakibjcihfaaa", sum := "db58b09eb2439e8926a9724cdf48bcad2aa79054c2a8c1b579816d9c2387d79d", func := "loop.example/g01057/laws.FnExactHeaterHours", spec := "fnExactHeaterHours", unfollowed := true, recurses := true, apart := false, narrowed := true }
def FnExactHeaterHoursUptoSaid : Prop := fnExactHeaterHoursUptoRow.holds Try.pinned (OpenSpec.upto fnExactHeaterHoursSpec)

/-- 'laws.FnExactIdleLimits', WHERE WHAT IT READS IS OF BULK AT MOST 1048576: true; the input reads as it did. -/
def fnExactIdleLimitsUptoRow : OpenClaim := { program := "ytelakibjcihfaaa", sum := "db58b09eb2439e8926a9724cdf48bcad2aa79054c2a8c1b579816d9c2387d79d", func := "loop.example/g01057/laws.FnExactIdleLimits", spec := "fnExactIdleLimits", unfollowed := true, recurses := true, apart := false, narrowed := true }
def FnExactIdleLimitsUptoSaid : Prop := fnExactIdleLimitsUptoRow.holds Try.pinned (OpenSpec.upto fnExactIdleLimitsSpec)

/-- 'laws.FnExactSpeedAllowed', WHERE WHAT IT READS IS OF BULK AT MOST 1048576: true; the input reads as it did. -/
def fnExactSpeedAllowedUptoRow : OpenClaim := { program := "ytelakibjcihfaaa", sum := "db58b09eb2439e8926a9724cdf48bcad2aa79054c2a8c1b579816d9c2387d79d", func := "loop.example/g01057/laws.FnExactSpeedAllowed", spec := "fnExactSpeedAllowed", unfollowed := true, recurses := true, apart := false, narrowed := true }
def FnExactSpeedAllowedUptoSaid : Prop := fnExactSpeedAllowedUptoRow.holds Try.pinned (OpenSpec.upto fnExactSpeedAllowedSpec)

/-- 'laws.FnExactHoursToRun', WHERE WHAT IT READS IS OF BULK AT MOST 1048576: true; the input reads as it did. -/
def fnExactHoursToRunUptoRow : OpenClaim := { program := "ytelakibjcihfaaa", sum := "db58b09eb2439e8926a9724cdf48bcad2aa79054c2a8c1b579816d9c2387d79d", func := "loop.example/g01057/laws.FnExactHoursToRun", spec := "fnExactHoursToRun", unfollowed := true, recurses := true, apart := false, narrowed := true }
def FnExactHoursToRunUptoSaid : Prop := fnExactHoursToRunUptoRow.holds Try.pinned (OpenSpec.upto fnExactHoursToRunSpec)

end Rows
end Go.Proofs.Ytelakibjcihfaaa
