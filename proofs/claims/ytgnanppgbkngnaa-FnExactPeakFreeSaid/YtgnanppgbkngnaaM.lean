/- Contracts of the functions on motors: validity and power. -/
import Derived.Test.YtgnanppgbkngnaaB
namespace Go.Proofs.Ytgnanppgbkngnaa
open Go.ChangeShapes Go.WideShapes Go.ChangeAt Go.RowKit
set_option linter.unusedVariables false
set_option linter.unusedSimpArgs false

def motorOk (p m l : Int) : Bool := inB p 1000 10000000 && inB m 100 1000000 && inB l 0 500
theorem motorOk_true {p m l : Int} (h : motorOk p m l = true) : (1000 ≤ p ∧ p ≤ 10000000) ∧ (100 ≤ m ∧ m ≤ 1000000) ∧ (0 ≤ l ∧ l ≤ 500) := by
  simp only [motorOk, Bool.and_eq_true] at h
  obtain ⟨⟨h0, h1⟩, h2⟩ := h
  exact ⟨inB_true h0, inB_true h1, inB_true h2⟩
/-- A motor's work, power, and whether it can pull. -/
def workI (f v : Int) : Int := (f * v).tdiv 1000
def powerI (l f v : Int) : Int := if 0 < workI f v then (1000 * workI f v + (1000 - l) - 1) / (1000 - l) else -(-workI f v * (1000 - l) / 1000)
def canB (p m l f v : Int) : Bool := decide (f ≤ m) && decide (powerI l f v ≤ p)
theorem workI_bd {f v : Int} (hf : inB f (-1000000) 1000000 = true) (hv : inB v 0 20000 = true) : (-20000000000 ≤ f * v ∧ f * v ≤ 20000000000) ∧ -20000000 ≤ workI f v ∧ workI f v ≤ 20000000 := by
  obtain ⟨f0, f1⟩ := inB_true hf
  obtain ⟨v0, v1⟩ := inB_true hv
  have h := mul_bd2 f0 f1 v0 v1
  refine ⟨by omega, ?_⟩
  exact tdiv_bd (by omega) (by omega)
theorem isForce_c (n : Int) (w : World) : Calls Try.prog 54 #[.int .i64 n] w fun e w' => e = .returned (.bool (inB n (-1000000) 1000000)) ∧ w = w' := by
  go_enter Try.func54, Try.ntmps54
  go_wp2_with
    (first
      | (go_at_call 48; go_call (within_c _ _ _ _); rintro e w' ⟨rfl, rfl⟩))
  all_goals (go_ret; simp [*])
theorem l10Force_c (n : Int) (w : World) : Calls Try.prog 51 #[.int .i64 n] w fun e w' => e = .returned (.bool (inB n (-1000000) 1000000)) ∧ w = w' := by
  go_enter Try.func51, Try.ntmps51
  go_wp2_with
    (first
      | (go_at_call 44; go_call (l00In_c _ _ _ _); rintro e w' ⟨rfl, rfl⟩))
  all_goals (go_ret; simp [*])
theorem isPace_c (n : Int) (w : World) : Calls Try.prog 69 #[.int .i64 n] w fun e w' => e = .returned (.bool (inB n 0 20000)) ∧ w = w' := by
  go_enter Try.func69, Try.ntmps69
  go_wp2_with
    (first
      | (go_at_call 48; go_call (within_c _ _ _ _); rintro e w' ⟨rfl, rfl⟩))
  all_goals (go_ret; simp [*])
theorem l10Speed_c (n : Int) (w : World) : Calls Try.prog 67 #[.int .i64 n] w fun e w' => e = .returned (.bool (inB n 0 20000)) ∧ w = w' := by
  go_enter Try.func67, Try.ntmps67
  go_wp2_with
    (first
      | (go_at_call 44; go_call (l00In_c _ _ _ _); rintro e w' ⟨rfl, rfl⟩))
  all_goals (go_ret; simp [*])
theorem toMotor_c (p m l : Int) (w : World) : Calls Try.prog 20 #[.agg #[.int .i64 p, .int .i64 m, .int .i64 l]] w fun e w' => e = .returned (.agg #[.int .i64 p, .int .i64 m, .int .i64 l]) ∧ Below w.heap.size w w' := by
  go_enter Try.func20, Try.ntmps20
  go_wp2
  go_returns
  refine ⟨rfl, ?_⟩
  go_grown
theorem l10Ok_c (p m l : Int) (b : Nat) (w : World) (h0 : w.cell? ⟨b, 0, none⟩ = some (.int .i64 p)) (h1 : w.cell? ⟨b, 1, none⟩ = some (.int .i64 m)) (h2 : w.cell? ⟨b, 2, none⟩ = some (.int .i64 l)) : Calls Try.prog 50 #[.pointer (some ⟨b, 0, none⟩)] w fun e w' => e = .returned (.bool (motorOk p m l)) ∧ w = w' := by
  unfold motorOk
  go_enter Try.func50, Try.ntmps50
  go_wp2_with
    (first
      | (go_at_call 44; go_call (l00In_c _ _ _ _); rintro e w' ⟨rfl, rfl⟩))
  all_goals (go_ret; simp [*])
theorem implValidMotor_c (p m l : Int) (w : World) : Calls Try.prog 86 #[.agg #[.int .i64 p, .int .i64 m, .int .i64 l]] w fun e w' => e = .returned (.bool (motorOk p m l)) ∧ Below w.heap.size w w' := by
  unfold motorOk
  go_enter Try.func86, Try.ntmps86
  go_wp2_with
    (first
      | (go_at_call 48; go_call (within_c _ _ _ _); rintro e w' ⟨rfl, rfl⟩))
  all_goals (go_returns; refine ⟨by simp [*], ?_⟩; go_grown)
theorem motored_c (p m l : Int) (fine : Bool) (w : World) : Calls Try.prog 53 #[.agg #[.int .i64 p, .int .i64 m, .int .i64 l], .bool fine] w fun e w' => e = .returned (.int .i64 (codeOf (motorOk p m l) fine)) ∧ Below w.heap.size w w' := by
  cases hok : motorOk p m l <;> cases fine
  all_goals
    go_enter Try.func53, Try.ntmps53
    go_wp2_with
      (first
        | (go_at_call 86; go_call (implValidMotor_c _ _ _ _); rintro e w' ⟨rfl, hb⟩; obtain ⟨qc, qf, qz, qs⟩ := bfacts hb; (try simp only [World.size_alloc, World.size_setCell, World.size_drew, World.heap_drewN] at qs)))
    go_returns
    refine ⟨rfl, ?_⟩
    repeat' (first
      | (with_reducible exact Below.refl _ _)
      | (with_reducible assumption)
      | (with_reducible refine Below.alloc ?_ ?_ _)
      | (with_reducible refine Below.drew ?_)
      | (with_reducible refine bdrewN ?_ _)
      | (with_reducible refine Below.setCell ?_ ?_ _)
      | (with_reducible refine bthen (by assumption) ?_ ?_)
      | go_size)
theorem power_c (p m l f v : Int) (hl0 : 0 ≤ l) (hl1 : l ≤ 500) (hf : inB f (-1000000) 1000000 = true) (hv : inB v 0 20000 = true) (w : World) : Calls Try.prog 87 #[.agg #[.int .i64 p, .int .i64 m, .int .i64 l], .int .i64 f, .int .i64 v] w fun e w' => e = .returned (.int .i64 (powerI l f v)) ∧ Below w.heap.size w w' := by
  obtain ⟨⟨t0, t1⟩, q0, q1⟩ := workI_bd hf hv
  obtain ⟨f0, f1⟩ := inB_true hf
  obtain ⟨v0, v1⟩ := inB_true hv
  clear hf hv
  have hq : (f * v).tdiv 1000 = workI f v := rfl
  by_cases h : 0 < workI f v
  · have hP : powerI l f v = ceilD (1000 * workI f v) (1000 - l) := by unfold powerI ceilD; rw [if_pos h]
    rw [hP]
    clear hP
    generalize workI f v = q at *
    go_enter Try.func87, Try.ntmps87
    go_wp2_with
      (first
        | (go_at_call 94; go_call (ceilDiv_c); rintro e w' ⟨rfl, rfl⟩))
    go_returns
    refine ⟨rfl, ?_⟩
    repeat' (first
      | (with_reducible exact Below.refl _ _)
      | (with_reducible assumption)
      | (with_reducible refine Below.alloc ?_ ?_ _)
      | (with_reducible refine Below.drew ?_)
      | (with_reducible refine bdrewN ?_ _)
      | (with_reducible refine Below.setCell ?_ ?_ _)
      | (with_reducible refine bthen (by assumption) ?_ ?_)
      | go_size)
  · have hP : powerI l f v = -(-workI f v * (1000 - l) / 1000) := by unfold powerI; rw [if_neg h]
    rw [hP]
    clear hP
    obtain ⟨k0, k1⟩ := mul_bd (show 0 ≤ -workI f v by omega) (show -workI f v ≤ 20000000 by omega) (show 0 ≤ 1000 - l by omega) (show 1000 - l ≤ 1000 by omega)
    generalize workI f v = q at *
    go_enter Try.func87, Try.ntmps87
    go_wp2_with
      (first
        | (go_at_call 94; go_call (ceilDiv_c); rintro e w' ⟨rfl, rfl⟩))
    go_returns
    refine ⟨rfl, ?_⟩
    repeat' (first
      | (with_reducible exact Below.refl _ _)
      | (with_reducible assumption)
      | (with_reducible refine Below.alloc ?_ ?_ _)
      | (with_reducible refine Below.drew ?_)
      | (with_reducible refine bdrewN ?_ _)
      | (with_reducible refine Below.setCell ?_ ?_ _)
      | (with_reducible refine bthen (by assumption) ?_ ?_)
      | go_size)
theorem isForce_v {n : Int} {b : Bool} (h : inB n (-1000000) 1000000 = b) (w : World) : Calls Try.prog 54 #[.int .i64 n] w fun e w' => e = .returned (.bool b) ∧ w = w' := by
  subst h
  exact isForce_c n w
theorem isPace_v {n : Int} {b : Bool} (h : inB n 0 20000 = b) (w : World) : Calls Try.prog 69 #[.int .i64 n] w fun e w' => e = .returned (.bool b) ∧ w = w' := by
  subst h
  exact isPace_c n w
end Go.Proofs.Ytgnanppgbkngnaa
