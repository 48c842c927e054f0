/- FnForces: what each function gives, by its value. -/
import Derived.Test.YtmkfkpfblnblgaaDU
import Derived.Test.YtmkfkpfblnblgaaXH
import Derived.Test.YtmkfkpfblnblgaaXA
import Derived.Test.YtmkfkpfblnblgaaXC
import Derived.Test.YtmkfkpfblnblgaaXD
import Derived.Test.YtmkfkpfblnblgaaXE
import Derived.Test.YtmkfkpfblnblgaaXF
import Derived.Test.YtmkfkpfblnblgaaXG
namespace Go.Proofs.Ytmkfkpfblnblgaa
open Go.ChangeShapes Go.WideShapes Go.ChangeAt Go.RowKit
set_option linter.unusedVariables false
set_option linter.unusedSimpArgs false

theorem codeT_ok {z : List Int} {n : Nat} {f u x : Int} (ht : trackB z n f u = true) (x0 : 0 ≤ x) (x1 : x ≤ lenTo z n) : codeT z n f u x true = 0 := by
  unfold codeT
  rw [ht, inB_of x0 x1]
  rfl
theorem codeT_no {z : List Int} {n : Nat} {f u x : Int} (ht : trackB z n f u = true) : codeT z n f u x false = 2 := by
  unfold codeT
  rw [ht, Bool.and_false]
  rfl
theorem codeR_ok {z : List Int} {n : Nat} {f u : Int} (ht : trackB z n f u = true) : codeR z n f u 40000 true = 0 := by
  have h := (trackB_true ht).2.2.1
  unfold codeR rideCode
  rw [ht, inB_of (show (1 : Int) ≤ 40000 by omega) (show (40000 : Int) ≤ 3000000 by omega)]
  simp
  omega
theorem car_v {A : Option Addr} {n c : Nat} {z : List Int} {f u x k v N : Int} (ht : trackB z n f u = true) (hN : lenTo z n = N) (x0 : 0 ≤ x) (x1 : x ≤ N) (k0 : 0 ≤ k) (k1 : k ≤ 100000) (hv : carI z n x k = v) (hz : z.length = n * 2) (hn : n ≤ 1048576) (w : World) (hr : RowI w A z) : Calls Try.prog 16 #[.agg #[.slice A n c, .int .i64 f, .int .i64 u], .int .i64 x, .int .i64 k] w fun e w' => e = .returned (.tuple #[.int .i64 v, .int .i64 0]) ∧ Below w.heap.size w w' := by
  subst hN
  have := implCarPull_c A n c z f u x k hz hn w hr
  simp only [inB_of k0 k1, Bool.and_self, codeT_ok ht x0 x1, fCode, if_true, hv] at this
  exact this
theorem rop_v {A : Option Addr} {n c : Nat} {z : List Int} {f u x r v N : Int} (ht : trackB z n f u = true) (hN : lenTo z n = N) (x0 : 0 ≤ x) (x1 : x ≤ N) (r0 : 0 ≤ r) (r1 : r ≤ 20000) (hv : ropI z n x r = v) (hz : z.length = n * 2) (hn : n ≤ 1048576) (w : World) (hr : RowI w A z) : Calls Try.prog 19 #[.agg #[.slice A n c, .int .i64 f, .int .i64 u], .int .i64 x, .int .i64 r] w fun e w' => e = .returned (.tuple #[.int .i64 v, .int .i64 0]) ∧ Below w.heap.size w w' := by
  subst hN
  have := implRopePull_c A n c z f u x r hz hn w hr
  simp only [inB_of r0 r1, Bool.and_self, codeT_ok ht x0 x1, fCode, if_true, hv] at this
  exact this
theorem implTen_v {A : Option Addr} {n c : Nat} {z : List Int} {f u x k r v N : Int} (ht : trackB z n f u = true) (hN : lenTo z n = N) (x0 : 0 ≤ x) (x1 : x ≤ N) (k0 : 0 ≤ k) (k1 : k ≤ 100000) (r0 : 0 ≤ r) (r1 : r ≤ 20000) (hv : tenI z n x k r = v) (hz : z.length = n * 2) (hn : n ≤ 1048576) (w : World) (hr : RowI w A z) : Calls Try.prog 21 #[.agg #[.slice A n c, .int .i64 f, .int .i64 u], .int .i64 x, .int .i64 k, .int .i64 r] w fun e w' => e = .returned (.tuple #[.int .i64 v, .int .i64 0]) ∧ Below w.heap.size w w' := by
  subst hN
  have := implTensionAt_c A n c z f u x k r hz hn w hr
  simp only [inB_of k0 k1, inB_of r0 r1, Bool.and_self, codeT_ok ht x0 x1, fCode, if_true, hv] at this
  exact this
theorem implNet_v {A : Option Addr} {n c : Nat} {z : List Int} {f u x k o r v N : Int} (ht : trackB z n f u = true) (hN : lenTo z n = N) (x0 : 0 ≤ x) (x1 : x ≤ N) (k0 : 0 ≤ k) (k1 : k ≤ 100000) (o0 : 0 ≤ o) (o1 : o ≤ 100000) (r0 : 0 ≤ r) (r1 : r ≤ 20000) (hv : netI z n x k o r = v) (hz : z.length = n * 2) (hn : n ≤ 1048576) (w : World) (hr : RowI w A z) : Calls Try.prog 23 #[.agg #[.slice A n c, .int .i64 f, .int .i64 u], .int .i64 x, .int .i64 k, .int .i64 o, .int .i64 r] w fun e w' => e = .returned (.tuple #[.int .i64 v, .int .i64 0]) ∧ Below w.heap.size w w' := by
  subst hN
  have := implNetPull_c A n c z f u x k o r hz hn w hr
  simp only [inB_of k0 k1, inB_of o0 o1, inB_of r0 r1, Bool.and_self, codeT_ok ht x0 x1, fCode, if_true, hv] at this
  exact this
theorem specTen_v {A : Option Addr} {n c : Nat} {z : List Int} {f u x k r v N : Int} (ht : trackB z n f u = true) (hN : lenTo z n = N) (x0 : 0 ≤ x) (x1 : x ≤ N) (k0 : 0 ≤ k) (k1 : k ≤ 100000) (r0 : 0 ≤ r) (r1 : r ≤ 20000) (hv : tenI z n x k r = v) (hz : z.length = n * 2) (hn : n ≤ 1048576) (w : World) (hr : RowI w A z) : Calls Try.prog 20 #[.agg #[.slice A n c, .int .i64 f, .int .i64 u], .int .i64 x, .int .i64 k, .int .i64 r] w fun e w' => e = .returned (.tuple #[.int .i64 v, .int .i64 0]) ∧ Below w.heap.size w w' := by
  subst hN
  have := specTensionAt_c A n c z f u x k r hz hn w hr
  simp only [inB_of k0 k1, inB_of r0 r1, Bool.and_self, codeT_ok ht x0 x1, fCode, if_true, hv] at this
  exact this
theorem specNet_v {A : Option Addr} {n c : Nat} {z : List Int} {f u x k o r v N : Int} (ht : trackB z n f u = true) (hN : lenTo z n = N) (x0 : 0 ≤ x) (x1 : x ≤ N) (k0 : 0 ≤ k) (k1 : k ≤ 100000) (o0 : 0 ≤ o) (o1 : o ≤ 100000) (r0 : 0 ≤ r) (r1 : r ≤ 20000) (hv : netI z n x k o r = v) (hz : z.length = n * 2) (hn : n ≤ 1048576) (w : World) (hr : RowI w A z) : Calls Try.prog 22 #[.agg #[.slice A n c, .int .i64 f, .int .i64 u], .int .i64 x, .int .i64 k, .int .i64 o, .int .i64 r] w fun e w' => e = .returned (.tuple #[.int .i64 v, .int .i64 0]) ∧ Below w.heap.size w w' := by
  subst hN
  have := specNetPull_c A n c z f u x k o r hz hn w hr
  simp only [inB_of k0 k1, inB_of o0 o1, inB_of r0 r1, Bool.and_self, codeT_ok ht x0 x1, fCode, if_true, hv] at this
  exact this
theorem specNet_n {A : Option Addr} {n c : Nat} {z : List Int} {f u x o r N : Int} (ht : trackB z n f u = true) (hN : lenTo z n = N)  (hz : z.length = n * 2) (hn : n ≤ 1048576) (w : World) (hr : RowI w A z) : Calls Try.prog 22 #[.agg #[.slice A n c, .int .i64 f, .int .i64 u], .int .i64 x, .int .i64 (-1), .int .i64 o, .int .i64 r] w fun e w' => e = .returned (.tuple #[.int .i64 0, .int .i64 2]) ∧ Below w.heap.size w w' := by
  subst hN
  have := specNetPull_c A n c z f u x (-1) o r hz hn w hr
  rw [show inB (-1) 0 100000 = false from by decide, Bool.false_and, Bool.false_and, codeT_no ht] at this
  exact this
theorem bal_v {A : Option Addr} {n c : Nat} {z : List Int} {f u x o r v q N : Int} (ht : trackB z n f u = true) (hN : lenTo z n = N) (x0 : 0 ≤ x) (x1 : x ≤ N) (o0 : 0 ≤ o) (o1 : o ≤ 100000) (r0 : 0 ≤ r) (r1 : r ≤ 20000) (hv : fBal z n x o r = (v, q)) (hz : z.length = n * 2) (hn : n ≤ 1048576) (w : World) (hr : RowI w A z) : Calls Try.prog 31 #[.agg #[.slice A n c, .int .i64 f, .int .i64 u], .int .i64 x, .int .i64 o, .int .i64 r] w fun e w' => e = .returned (.tuple #[.int .i64 v, .int .i64 q]) ∧ Below w.heap.size w w' := by
  subst hN
  have := implBalanceKilos_c A n c z f u x o r hz hn w hr
  simp only [fBalanceKilos, inB_of o0 o1, inB_of r0 r1, Bool.and_self, codeT_ok ht x0 x1, if_true, hv] at this
  exact this
theorem gnet_v {A : Option Addr} {n c : Nat} {z : List Int} {f u k o r v t N : Int} (ht : trackB z n f u = true) (hN : lenTo z n = N) (k0 : 0 ≤ k) (k1 : k ≤ 100000) (o0 : 0 ≤ o) (o1 : o ≤ 100000) (r0 : 0 ≤ r) (r1 : r ≤ 20000) (hv : (bestI (fun y => absI (netI z n y k o r)) (lenTo z n) 40000).1 = v) (hv2 : netI z n v k o r = t) (hz : z.length = n * 2) (hn : n ≤ 1048576) (w : World) (hr : RowI w A z) : Calls Try.prog 33 #[.agg #[.slice A n c, .int .i64 f, .int .i64 u], .int .i64 k, .int .i64 o, .int .i64 r, .int .i64 40000] w fun e w' => e = .returned (.tuple #[.int .i64 v, .int .i64 t, .int .i64 0]) ∧ Below w.heap.size w w' := by
  subst hN
  have := implGreatestNet_c A n c z f u k o r 40000 hz hn w hr
  simp only [fGreatestNet, inB_of k0 k1, inB_of o0 o1, inB_of r0 r1, Bool.and_self, codeR_ok ht, if_true, hv, hv2] at this
  exact this
theorem gten_v {A : Option Addr} {n c : Nat} {z : List Int} {f u k r v t N : Int} (ht : trackB z n f u = true) (hN : lenTo z n = N) (k0 : 0 ≤ k) (k1 : k ≤ 100000) (r0 : 0 ≤ r) (r1 : r ≤ 20000) (hv : (bestI (fun y => tenI z n y k r) (lenTo z n) 40000).1 = v) (hv2 : (bestI (fun y => tenI z n y k r) (lenTo z n) 40000).2 = t) (hz : z.length = n * 2) (hn : n ≤ 1048576) (w : World) (hr : RowI w A z) : Calls Try.prog 25 #[.agg #[.slice A n c, .int .i64 f, .int .i64 u], .int .i64 k, .int .i64 r, .int .i64 40000] w fun e w' => e = .returned (.tuple #[.int .i64 v, .int .i64 t, .int .i64 0]) ∧ Below w.heap.size w w' := by
  subst hN
  have := implGreatestTension_c A n c z f u k r 40000 hz hn w hr
  simp only [fGreatestTension, inB_of k0 k1, inB_of r0 r1, Bool.and_self, codeR_ok ht, if_true, hv, hv2] at this
  exact this
theorem work_v {A : Option Addr} {n c : Nat} {z : List Int} {f u k o r v N : Int} (ht : trackB z n f u = true) (hN : lenTo z n = N) (k0 : 0 ≤ k) (k1 : k ≤ 100000) (o0 : 0 ≤ o) (o1 : o ≤ 100000) (r0 : 0 ≤ r) (r1 : r ≤ 20000) (hv : workI z n k o r 40000 = v) (hz : z.length = n * 2) (hn : n ≤ 1048576) (w : World) (hr : RowI w A z) : Calls Try.prog 29 #[.agg #[.slice A n c, .int .i64 f, .int .i64 u], .int .i64 k, .int .i64 o, .int .i64 r, .int .i64 40000] w fun e w' => e = .returned (.tuple #[.int .i64 v, .int .i64 0]) ∧ Below w.heap.size w w' := by
  subst hN
  have := implWorkOf_c A n c z f u k o r 40000 hz hn w hr
  simp only [fWorkOf, inB_of k0 k1, inB_of o0 o1, inB_of r0 r1, Bool.and_self, codeR_ok ht, if_true, hv] at this
  exact this
theorem zero_v {A : Option Addr} {n c : Nat} {z : List Int} {f u k o r v q N : Int} (ht : trackB z n f u = true) (hN : lenTo z n = N) (k0 : 0 ≤ k) (k1 : k ≤ 100000) (o0 : 0 ≤ o) (o1 : o ≤ 100000) (r0 : 0 ≤ r) (r1 : r ≤ 20000) (hv : zeroI z n k o r 40000 = (v, q)) (hz : z.length = n * 2) (hn : n ≤ 1048576) (w : World) (hr : RowI w A z) : Calls Try.prog 27 #[.agg #[.slice A n c, .int .i64 f, .int .i64 u], .int .i64 k, .int .i64 o, .int .i64 r, .int .i64 40000] w fun e w' => e = .returned (.tuple #[.int .i64 v, .int .i64 q]) ∧ Below w.heap.size w w' := by
  subst hN
  have := implZeroNet_c A n c z f u k o r 40000 hz hn w hr
  simp only [fZeroNet, inB_of k0 k1, inB_of o0 o1, inB_of r0 r1, Bool.and_self, codeR_ok ht, if_true, hv] at this
  exact this
end Go.Proofs.Ytmkfkpfblnblgaa
