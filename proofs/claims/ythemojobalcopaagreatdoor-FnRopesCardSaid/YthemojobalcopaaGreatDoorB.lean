/- Contracts of the small functions of the program and of the reference. Each holds for every argument that its premises let in, in whatever memory. -/
import Derived.Test.YthemojobalcopaaGreatDoorRows
import Derived.Test.YthemojobalcopaaGreatDoorP
import Derived.WalkKit
import Derived.ProofKit
import Derived.OpenShut
import Derived.ShutString
import Derived.ChangeOld
import Derived.Below
import Derived.Handy
import Derived.BigQuiet
import Derived.Lib.Hide
import Derived.Lib.SmallJoins
import Derived.Deep.QuietTactic
import Derived.Deep.RegionHeld3
import Derived.Outline
import Derived.StillTailTactics
import Derived.Deep.RegionWith
import Derived.LoopTactic
namespace Go.Proofs.YthemojobalcopaaGreatDoor
open Go.ChangeShapes Go.WideShapes Go.ChangeAt Go.RowKit
set_option linter.unusedVariables false
set_option linter.unusedSimpArgs false

theorem bfacts {W w1 : World} (hb : Below W.heap.size W w1) : (∀ b o, b < W.heap.size → w1.cell? ⟨b, o, none⟩ = W.cell? ⟨b, o, none⟩) ∧ (∀ b o, b < W.heap.size → w1.frozen? ⟨b, o, none⟩ = W.frozen? ⟨b, o, none⟩) ∧ (∀ b, b < W.heap.size → b < w1.heap.size) ∧ W.heap.size ≤ w1.heap.size :=
  ⟨fun b o h => hb.cell (p := ⟨b, o, none⟩) h, fun b o h => hb.frozen (p := ⟨b, o, none⟩) h, fun b h => Nat.lt_of_lt_of_le h hb.size, hb.size⟩
theorem bthen {B B' : Nat} {a b c : World} (k : Below B' b c) (h : Below B a b) (hB : B ≤ B') : Below B a c := h.trans (k.mono hB)
theorem bdrewN {B : Nat} {a w : World} (h : Below B a w) (n : Nat) : Below B a (w.drewN n) := ⟨h.os, h.tape, h.output, h.size, h.block⟩
theorem quiet_add {P : Program} {f : FuncId} {args : Array Value} {w : World} {a n : Nat} {v : Value}
    (h : Calls P f args (w.drewN (a + n)) fun e w' => e = .returned v ∧ ∃ m, w' = (w.drewN (a + n)).drewN m) :
    Calls P f args (w.drewN (a + n)) fun e w'' => e = .returned v ∧ ∃ m, w'' = w.drewN (a + m) :=
  h.mono fun _ _ ⟨he, m, hm⟩ => ⟨he, n + m, by rw [hm, World.drewN_drewN, Nat.add_assoc]⟩
theorem quiet_add_left {P : Program} {f : FuncId} {args : Array Value} {w : World} {a n : Nat} {v : Value}
    (h : Calls P f args (w.drewN (a + n)) fun e w' => e = .returned v ∧ w.drewN (a + n) = w') :
    Calls P f args (w.drewN (a + n)) fun e w'' => e = .returned v ∧ ∃ m, w'' = w.drewN (a + m) :=
  h.mono fun _ _ ⟨he, hm⟩ => ⟨he, n, hm.symm⟩
theorem quiet_left {P : Program} {f : FuncId} {args : Array Value} {w : World} {n : Nat} {v : Value}
    (h : Calls P f args (w.drewN n) fun e w' => e = .returned v ∧ w.drewN n = w') : Calls P f args (w.drewN n) fun e w'' => e = .returned v ∧ ∃ m, w'' = w.drewN m :=
  h.mono fun _ _ ⟨he, hm⟩ => ⟨he, n, hm.symm⟩
theorem ret_int {k : IntKind} {a b : Int} (h : a = b) : Ending.returned (.int k a) = .returned (.int k b) := by rw [h]
/-- A number that fits an int64. -/
def I64 (n : Int) : Prop := -9223372036854775808 ≤ n ∧ n ≤ 9223372036854775807
theorem i64_of {n : Int} (h : (Lit.int .i64 n).wf = true) : I64 n := by
  have := bounds_i64 h
  unfold I64
  omega
theorem bsame {a b : World} {B : Nat} (h : a = b) : Below B a b := by subst h; exact Below.refl _ _
theorem l00In_c (n lo hi : Int) (w : World) : Calls Tryz.prog 43 #[.int .i64 n, .int .i64 lo, .int .i64 hi] w fun e w' => e = .returned (.bool (inB n lo hi)) ∧ w = w' := by
  unfold inB
  go_enter Tryz.func43, Tryz.ntmps43
  go_wp2
  all_goals (go_ret; simp [*]; try omega)
theorem l00In_v {n lo hi : Int} {b : Bool} (h : inB n lo hi = b) (w : World) : Calls Tryz.prog 43 #[.int .i64 n, .int .i64 lo, .int .i64 hi] w fun e w' => e = .returned (.bool b) ∧ w = w' := by
  subst h
  exact l00In_c n lo hi w
theorem within_c (n lo hi : Int) (w : World) : Calls Tryz.prog 24 #[.int .i64 n, .int .i64 lo, .int .i64 hi] w fun e w' => e = .returned (.bool (inB n lo hi)) ∧ w = w' := by
  unfold inB
  go_enter Tryz.func24, Tryz.ntmps24
  go_wp2
  all_goals (go_ret; simp [*]; try omega)
theorem abs_c (n : Int) (h : -9223372036854775807 ≤ n) (h' : n ≤ 9223372036854775807) (w : World) : Calls Tryz.prog 42 #[.int .i64 n] w fun e w' => e = .returned (.int .i64 (absI n)) ∧ w = w' := by
  unfold absI
  go_enter Tryz.func42, Tryz.ntmps42
  go_wp2
  all_goals (go_ret; simp [*]; try omega)
theorem tdiv_neg_eq (a b : Int) : a.tdiv b = -((-a).tdiv b) := by rw [Int.neg_tdiv, Int.neg_neg]
theorem tmod_neg_eq (a b : Int) : a.tmod b = -((-a).tmod b) := by rw [Int.neg_tmod, Int.neg_neg]
theorem nearest_c (a b : Int) (h0 : -4000000000000000000 ≤ a) (h1 : a ≤ 4000000000000000000) (h2 : 0 < b) (h3 : b ≤ 1000000000000000000) (w : World) : Calls Tryz.prog 34 #[.int .i64 a, .int .i64 b] w fun e w' => e = .returned (.int .i64 (divR a b)) ∧ ∃ n, w' = w.drewN n := by
  have hab : absI b = b := absI_of_nonneg (by omega)
  have hb0 : decide (b < 0) = false := by simp; omega
  by_cases h : a < 0
  · obtain ⟨c, rfl⟩ : ∃ c, a = -c := ⟨-a, by omega⟩
    have hc0 : decide (0 < c) = true := by simp; omega
    have hq : (-c).tdiv b = -(c / b) := by rw [Int.neg_tdiv, Int.tdiv_eq_ediv_of_nonneg (by omega)]
    have hm : (-c).tmod b = -(c % b) := by rw [Int.neg_tmod, Int.tmod_eq_emod_of_nonneg (by omega)]
    have r0 : 0 ≤ c % b := Int.emod_nonneg _ (by omega)
    have r1 : c % b < b := Int.emod_lt_of_pos _ h2
    have q0 : 0 ≤ c / b := Int.ediv_nonneg (by omega) (by omega)
    have q1 : c / b ≤ c := Int.ediv_le_self _ (by omega)
    have ha : absI (-(c % b)) = c % b := by unfold absI; split <;> omega
    have H := Lib.hid (show divR (-c) b = -(c / b + (if b ≤ 2 * (c % b) then 1 else 0)) by rw [divR_neg h, Int.neg_neg, divR_nonneg (by omega) h2])
    rw [H.out]
    clear H
    generalize c / b = q at *
    generalize c % b = r at *
    go_enter Tryz.func34, Tryz.ntmps34
    go_wp2
    go_quiet ((first | (go_at_call 42; exact quiet_left (abs_c _ (by omega) (by omega) _))))
    go_wp2_with
      (first
        | (go_at_call 42; go_call (abs_c); rintro e w' ⟨rfl, rfl⟩))
    all_goals (go_ret; refine ⟨ret_int ?_, _, rfl⟩; first | omega | (split <;> omega))
  · have ha0 : decide (a < 0) = false := by simp; omega
    have r0 : 0 ≤ a % b := Int.emod_nonneg _ (by omega)
    have r1 : a % b < b := Int.emod_lt_of_pos _ h2
    have q0 : 0 ≤ a / b := Int.ediv_nonneg (by omega) (by omega)
    have q1 : a / b ≤ a := Int.ediv_le_self _ (by omega)
    have ha : absI (a % b) = a % b := by unfold absI; split <;> omega
    have H := Lib.hid (show divR a b = a / b + (if b ≤ 2 * (a % b) then 1 else 0) by rw [divR_nonneg (by omega) h2])
    have hq : a.tdiv b = a / b := by rw [Int.tdiv_eq_ediv_of_nonneg (by omega)]
    have hm : a.tmod b = a % b := by rw [Int.tmod_eq_emod_of_nonneg (by omega)]
    rw [H.out]
    clear H
    go_enter Tryz.func34, Tryz.ntmps34
    go_wp2
    go_quiet ((first | (go_at_call 42; exact quiet_left (abs_c _ (by omega) (by omega) _))))
    go_wp2_with
      (first
        | (go_at_call 42; go_call (abs_c); rintro e w' ⟨rfl, rfl⟩))
    all_goals (go_ret; refine ⟨ret_int ?_, _, rfl⟩; first | omega | (split <;> omega))
end Go.Proofs.YthemojobalcopaaGreatDoor
