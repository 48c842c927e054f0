/- Contracts of the functions on what a motor needs. -/
import Derived.Test.YtgnanppgbkngnaaM
namespace Go.Proofs.Ytgnanppgbkngnaa
open Go.ChangeShapes Go.WideShapes Go.ChangeAt Go.RowKit
set_option linter.unusedVariables false
set_option linter.unusedSimpArgs false

/-- What a motor needs, or 0 where the force is too great. -/
def needI (m l f v : Int) : Int := if m < f then 0 else powerI l f v
theorem canB_need {p m l f v : Int} (h : canB p m l f v = true) : needI m l f v = powerI l f v := by
  simp [canB] at h
  unfold needI
  rw [if_neg (by omega)]
def fPower (p m l f v : Int) : Int × Int := if motorOk p m l then (if inB f (-1000000) 1000000 && inB v 0 20000 then (if canB p m l f v then (powerI l f v, 0) else (0, 6)) else (0, 2)) else (0, 1)
theorem canDo_c (p m l f v : Int) (hl0 : 0 ≤ l) (hl1 : l ≤ 500) (hf : inB f (-1000000) 1000000 = true) (hv : inB v 0 20000 = true) (w : World) : Calls Try.prog 57 #[.agg #[.int .i64 p, .int .i64 m, .int .i64 l], .int .i64 f, .int .i64 v] w fun e w' => e = .returned (.bool (canB p m l f v)) ∧ Below w.heap.size w w' := by
  have hc : canB p m l f v = (decide (f ≤ m) && decide (powerI l f v ≤ p)) := rfl
  rw [hc]
  clear hc
  cases g : decide (f ≤ m)
  · go_enter Try.func57, Try.ntmps57
    go_wp2
    go_quiet (fail)
    go_wp2
    go_returns
    refine ⟨by simp, ?_⟩
    repeat' (first
      | (with_reducible exact Below.refl _ _)
      | (with_reducible assumption)
      | (with_reducible refine Below.alloc ?_ ?_ _)
      | (with_reducible refine Below.drew ?_)
      | (with_reducible refine bdrewN ?_ _)
      | (with_reducible refine Below.setCell ?_ ?_ _)
      | (with_reducible refine bthen (by assumption) ?_ ?_)
      | go_size)
  · go_enter Try.func57, Try.ntmps57
    go_wp2
    go_region_held3 (fun w' => w'.cell? ⟨w.heap.size, 0, none⟩ = some (.int .i64 p) ∧ w'.cell? ⟨w.heap.size, 1, none⟩ = some (.int .i64 m) ∧ w'.cell? ⟨w.heap.size, 2, none⟩ = some (.int .i64 l)) (simp [*, go_sem])
      (first
        | (go_at_call 87; go_call (power_c _ _ _ _ _ hl0 hl1 hf hv _); rintro e w' ⟨rfl, hb⟩; obtain ⟨qc, qf, qz, qs⟩ := bfacts hb; (try simp only [World.size_alloc, World.size_setCell, World.size_drew, World.heap_drewN] at qs)))
    go_wp2
    go_returns
    refine ⟨by simp, ?_⟩
    repeat' (first
      | (with_reducible exact Below.refl _ _)
      | (with_reducible assumption)
      | (with_reducible refine Below.alloc ?_ ?_ _)
      | (with_reducible refine Below.drew ?_)
      | (with_reducible refine bdrewN ?_ _)
      | (with_reducible refine Below.setCell ?_ ?_ _)
      | (with_reducible refine bthen (by assumption) ?_ ?_)
      | go_size)
theorem l10Need_c (p m l f v : Int) (hp : 1000 ≤ p) (hl0 : 0 ≤ l) (hl1 : l ≤ 500) (hf : inB f (-1000000) 1000000 = true) (hv : inB v 0 20000 = true) (b : Nat) (w : World) (h0 : w.cell? ⟨b, 0, none⟩ = some (.int .i64 p)) (h1 : w.cell? ⟨b, 1, none⟩ = some (.int .i64 m)) (h2 : w.cell? ⟨b, 2, none⟩ = some (.int .i64 l)) : Calls Try.prog 52 #[.pointer (some ⟨b, 0, none⟩), .int .i64 f, .int .i64 v] w fun e w' => e = .returned (.tuple #[.int .i64 (needI m l f v), .bool (canB p m l f v)]) ∧ ∃ n, w' = w.drewN n := by
  obtain ⟨⟨t0, t1⟩, q0, q1⟩ := workI_bd hf hv
  obtain ⟨f0, f1⟩ := inB_true hf
  obtain ⟨v0, v1⟩ := inB_true hv
  clear hf hv
  have hq : (f * v).tdiv 1000 = workI f v := rfl
  by_cases g : m < f
  · have hc : canB p m l f v = false := by unfold canB; simp; omega
    have hn : needI m l f v = 0 := by unfold needI; rw [if_pos g]
    rw [hc, hn]
    clear hn
    clear hc
    go_enter Try.func52, Try.ntmps52
    go_wp2
    go_ret2
    exact ⟨rfl, 0, rfl⟩
  have hc : canB p m l f v = decide (powerI l f v ≤ p) := by unfold canB; simp; omega
  have hn : needI m l f v = powerI l f v := by unfold needI; rw [if_neg g]
  rw [hc, hn]
  clear hc hn
  by_cases h : 0 < workI f v
  · have hP : powerI l f v = (1000 * workI f v + 999 - l) / (1000 - l) := by unfold powerI; rw [if_pos h]; congr 1; omega
    rw [hP]
    clear hP
    have n0 : 0 ≤ (1000 * workI f v + 999 - l) / (1000 - l) := Int.ediv_nonneg (by omega) (by omega)
    have n1 : (1000 * workI f v + 999 - l) / (1000 - l) ≤ 1000 * workI f v + 999 - l := Int.ediv_le_self _ (by omega)
    generalize workI f v = q at *
    go_enter Try.func52, Try.ntmps52
    go_wp2
    go_quiet (fail)
    go_wp2
    go_quiet (fail)
    go_wp2
    go_ret2
    exact ⟨by simp, _, World.drewN_drewN _ _ _⟩
  · have hP : powerI l f v = -(-workI f v * (1000 - l) / 1000) := by unfold powerI; rw [if_neg h]
    rw [hP]
    clear hP
    obtain ⟨k0, k1⟩ := mul_bd (show 0 ≤ -workI f v by omega) (show -workI f v ≤ 20000000 by omega) (show 0 ≤ 1000 - l by omega) (show 1000 - l ≤ 1000 by omega)
    have hd : decide (-(-workI f v * (1000 - l) / 1000) ≤ p) = true := by simp; omega
    rw [hd]
    clear hd
    generalize workI f v = q at *
    go_enter Try.func52, Try.ntmps52
    go_wp2
    go_ret2
    exact ⟨by simp, 0, rfl⟩
set_option maxHeartbeats 1000000 in
theorem implPowerNeeded_f (p m l f v : Int) (w : World) (hf : inB f (-1000000) 1000000 = false) : Calls Try.prog 70 #[.agg #[.int .i64 p, .int .i64 m, .int .i64 l], .int .i64 f, .int .i64 v] w fun e w' => e = .returned (.tuple #[.int .i64 (fPower p m l f v).1, .int .i64 (fPower p m l f v).2]) ∧ Below w.heap.size w w' := by
  cases hok : motorOk p m l
  all_goals
    go_enter Try.func70, Try.ntmps70
    go_wp2
    first | go_region_with ((first | (go_at_call 54; go_call (isForce_v hf _); rintro e w' ⟨rfl, rfl⟩) | (go_at_call 53; go_call (motored_c _ _ _ _ _); rintro e w' ⟨rfl, hb⟩; obtain ⟨qc, qf, qz, qs⟩ := bfacts hb; (try simp only [World.size_alloc, World.size_setCell, World.size_drew, World.heap_drewN] at qs)))) | fail
    all_goals
      go_wp2
      go_returns
      refine ⟨by simp [fPower, hok, hf], ?_⟩
      repeat' (first
        | (with_reducible exact Below.refl _ _)
        | (with_reducible assumption)
        | (with_reducible refine Below.alloc ?_ ?_ _)
        | (with_reducible refine Below.drew ?_)
        | (with_reducible refine bdrewN ?_ _)
        | (with_reducible refine Below.setCell ?_ ?_ _)
        | (with_reducible refine bthen (by assumption) ?_ ?_)
        | go_size)
set_option maxHeartbeats 1000000 in
theorem implPowerNeeded_c (p m l f v : Int) (w : World) : Calls Try.prog 70 #[.agg #[.int .i64 p, .int .i64 m, .int .i64 l], .int .i64 f, .int .i64 v] w fun e w' => e = .returned (.tuple #[.int .i64 (fPower p m l f v).1, .int .i64 (fPower p m l f v).2]) ∧ Below w.heap.size w w' := by
  cases hf : inB f (-1000000) 1000000
  · exact implPowerNeeded_f p m l f v w hf
  cases hok : motorOk p m l <;> cases hv : inB v 0 20000 <;> cases hc : canB p m l f v
  all_goals
    try obtain ⟨⟨p0, p1⟩, ⟨m0, m1⟩, ⟨l0, l1⟩⟩ := motorOk_true hok
    go_enter Try.func70, Try.ntmps70
    go_wp2
    go_region_held3 (fun w' => w'.cell? ⟨w.heap.size, 0, none⟩ = some (.int .i64 p) ∧ w'.cell? ⟨w.heap.size, 1, none⟩ = some (.int .i64 m) ∧ w'.cell? ⟨w.heap.size, 2, none⟩ = some (.int .i64 l)) (simp [*, go_sem])
      (first
        | (go_at_call 54; go_call (isForce_v hf _); rintro e w' ⟨rfl, rfl⟩)
        | (go_at_call 69; go_call (isPace_v hv _); rintro e w' ⟨rfl, rfl⟩)
        | (go_at_call 53; go_call (motored_c _ _ _ _ _); rintro e w' ⟨rfl, hb⟩; obtain ⟨qc, qf, qz, qs⟩ := bfacts hb; (try simp only [World.size_alloc, World.size_setCell, World.size_drew, World.heap_drewN] at qs)))
    go_wp2_with
      (first
        | (go_at_call 57; go_call (canDo_c _ _ _ _ _ l0 l1 hf hv _); rintro e w' ⟨rfl, hb⟩; obtain ⟨qc, qf, qz, qs⟩ := bfacts hb; (try simp only [World.size_alloc, World.size_setCell, World.size_drew, World.heap_drewN] at qs); have za : w.heap.size < w'.heap.size := (by omega); have pa0 : w'.cell? ⟨w.heap.size, 0, none⟩ = some (.int .i64 p) := (by rw [qc _ _ (by first | assumption | (simp; done) | (simp; omega))]; first | assumption | (simp; done) | (simp [*]; done) | (simp [*, go_sem]; done)); have pa1 : w'.cell? ⟨w.heap.size, 1, none⟩ = some (.int .i64 m) := (by rw [qc _ _ (by first | assumption | (simp; done) | (simp; omega))]; first | assumption | (simp; done) | (simp [*]; done) | (simp [*, go_sem]; done)); have pa2 : w'.cell? ⟨w.heap.size, 2, none⟩ = some (.int .i64 l) := (by rw [qc _ _ (by first | assumption | (simp; done) | (simp; omega))]; first | assumption | (simp; done) | (simp [*]; done) | (simp [*, go_sem]; done)))
        | (go_at_call 87; go_call (power_c _ _ _ _ _ l0 l1 hf hv _); rintro e w' ⟨rfl, hb⟩; obtain ⟨qc, qf, qz, qs⟩ := bfacts hb; (try simp only [World.size_alloc, World.size_setCell, World.size_drew, World.heap_drewN] at qs); have za : w.heap.size < w'.heap.size := (by omega); have pa0 : w'.cell? ⟨w.heap.size, 0, none⟩ = some (.int .i64 p) := (by rw [qc _ _ (by first | assumption | (simp; done) | (simp; omega))]; first | assumption | (simp; done) | (simp [*]; done) | (simp [*, go_sem]; done)); have pa1 : w'.cell? ⟨w.heap.size, 1, none⟩ = some (.int .i64 m) := (by rw [qc _ _ (by first | assumption | (simp; done) | (simp; omega))]; first | assumption | (simp; done) | (simp [*]; done) | (simp [*, go_sem]; done)); have pa2 : w'.cell? ⟨w.heap.size, 2, none⟩ = some (.int .i64 l) := (by rw [qc _ _ (by first | assumption | (simp; done) | (simp; omega))]; first | assumption | (simp; done) | (simp [*]; done) | (simp [*, go_sem]; done))))
    go_returns
    refine ⟨by simp [fPower, hok, hf, hv, hc], ?_⟩
    repeat' (first
      | (with_reducible exact Below.refl _ _)
      | (with_reducible assumption)
      | (with_reducible refine Below.alloc ?_ ?_ _)
      | (with_reducible refine Below.drew ?_)
      | (with_reducible refine bdrewN ?_ _)
      | (with_reducible refine Below.setCell ?_ ?_ _)
      | (with_reducible refine bthen (by assumption) ?_ ?_)
      | go_size)
end Go.Proofs.Ytgnanppgbkngnaa
