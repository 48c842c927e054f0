/- Contracts of the functions on hours of weather. -/
import Derived.Test.YtapafambhidlhaaDoorB
namespace Go.Proofs.YtapafambhidlhaaDoor
open Go.ChangeShapes Go.WideShapes Go.ChangeAt Go.RowKit
set_option linter.unusedVariables false
set_option linter.unusedSimpArgs false

def hourOk (r d w : Int) : Bool := inB r 0 1000 && inB d (-400) 500 && inB w 0 1000
theorem hourOk_true {r d w : Int} (h : hourOk r d w = true) : (0 ≤ r ∧ r ≤ 1000) ∧ (-400 ≤ d ∧ d ≤ 500) ∧ (0 ≤ w ∧ w ≤ 1000) := by
  simp only [hourOk, Bool.and_eq_true] at h
  obtain ⟨⟨h0, h1⟩, h2⟩ := h
  exact ⟨inB_true h0, inB_true h1, inB_true h2⟩

/-- Does a kind of weather come in in an hour? -/
def kindB (k r d w : Int) : Bool := if k = 1 then decide (0 < r) && decide (10 < d) else if k = 2 then decide (0 < r) && decide (d ≤ 10) else if k = 3 then decide (150 < w) else decide (d < -100)
/-- .. and its number. -/
def kindN (k r d w : Int) : Int := if k = 1 then r else if k = 2 then r else if k = 3 then w else -d
def gripI (r d w : Int) : Int := 350 - (if kindB 1 r d w then 150 else 0) - (if kindB 2 r d w then 270 else 0) - (if kindB 4 r d w then 20 else 0)
theorem kindB_12 {r d w : Int} (h : kindB 1 r d w = true) : kindB 2 r d w = false := by
  simp only [kindB] at h ⊢
  simp at h ⊢
  omega
theorem gripI_bd (r d w : Int) : 60 ≤ gripI r d w ∧ gripI r d w ≤ 350 := by
  have h := @kindB_12 r d w
  unfold gripI
  generalize kindB 1 r d w = a at *
  generalize kindB 2 r d w = b at *
  generalize kindB 4 r d w = c at *
  cases a <;> cases b <;> cases c <;> simp_all
def fGrip (r d w : Int) : Int × Int := if hourOk r d w then (gripI r d w, 0) else (0, 1)
def fStop (r d w x : Int) : Int × Int := if hourOk r d w then (if inB x 1000 5000 then (1000 * gripI r d w / x, 0) else (0, 2)) else (0, 1)
theorem isWeather_c (n : Int) (w : World) : Calls Tryd.prog 25 #[.int .i64 n] w fun e w' => e = .returned (.bool (inB n 1 4)) ∧ w = w' := by
  go_enter Tryd.func25, Tryd.ntmps25
  go_wp2_with
    (first
      | (go_at_call 24; go_call (within_c _ _ _ _); rintro e w' ⟨rfl, rfl⟩))
  all_goals (go_ret; simp [*])
theorem l08One_c (r d x : Int) (b o : Nat) (w : World) (h0 : w.cell? ⟨b, o, none⟩ = some (.int .i64 r)) (h1 : w.cell? ⟨b, o + 1, none⟩ = some (.int .i64 d)) (h2 : w.cell? ⟨b, o + 2, none⟩ = some (.int .i64 x)) : Calls Tryd.prog 29 #[.pointer (some ⟨b, o, none⟩)] w fun e w' => e = .returned (.bool (hourOk r d x)) ∧ w = w' := by
  unfold hourOk
  go_enter Tryd.func29, Tryd.ntmps29
  go_wp2_with
    (first
      | (go_at_call 40; go_call (l00In_c _ _ _ _); rintro e w' ⟨rfl, rfl⟩))
  all_goals (go_ret; simp [*])
theorem validHour_c (r d x : Int) (w : World) : Calls Tryd.prog 19 #[.agg #[.int .i64 r, .int .i64 d, .int .i64 x]] w fun e w' => e = .returned (.bool (hourOk r d x)) ∧ Below w.heap.size w w' := by
  unfold hourOk
  go_enter Tryd.func19, Tryd.ntmps19
  go_wp2_with
    (first
      | (go_at_call 24; go_call (within_c _ _ _ _); rintro e w' ⟨rfl, rfl⟩))
  all_goals (go_returns; refine ⟨by simp [*], ?_⟩; go_grown)
theorem isKind_c (r d x k : Int) (hd0 : -400 ≤ d) (hd1 : d ≤ 500) (w : World) : Calls Tryd.prog 20 #[.agg #[.int .i64 r, .int .i64 d, .int .i64 x], .int .i64 k] w fun e w' => e = .returned (.bool (kindB k r d x)) ∧ Below w.heap.size w w' := by
  by_cases h1 : k = 1
  · subst h1
    have hk : kindB 1 r d x = (decide (0 < r) && decide (10 < d)) := rfl
    rw [hk]
    clear hk
    by_cases g1 : 0 < r <;> by_cases g2 : 10 < d
    all_goals
      go_enter Tryd.func20, Tryd.ntmps20
      go_wp2
      all_goals (go_returns; refine ⟨by simp [*], ?_⟩; go_grown)
  by_cases h2 : k = 2
  · subst h2
    have hk : kindB 2 r d x = (decide (0 < r) && decide (d ≤ 10)) := rfl
    rw [hk]
    clear hk
    by_cases g1 : 0 < r <;> by_cases g2 : d ≤ 10
    all_goals
      go_enter Tryd.func20, Tryd.ntmps20
      go_wp2
      all_goals (go_returns; refine ⟨by simp [*], ?_⟩; go_grown)
  by_cases h3 : k = 3
  · subst h3
    have hk : kindB 3 r d x = decide (150 < x) := rfl
    rw [hk]
    clear hk
    go_enter Tryd.func20, Tryd.ntmps20
    go_wp2
    all_goals (go_returns; refine ⟨by simp [*], ?_⟩; go_grown)
  · have hk : kindB k r d x = decide (d < -100) := by unfold kindB; rw [if_neg h1, if_neg h2, if_neg h3]
    rw [hk]
    clear hk
    have n1 : (k == 1) = false := by simp [h1]
    have n2 : (k == 2) = false := by simp [h2]
    have n3 : (k == 3) = false := by simp [h3]
    go_enter Tryd.func20, Tryd.ntmps20
    go_wp2
    all_goals (go_returns; refine ⟨by simp [*], ?_⟩; go_grown)
theorem l08Is_c (r d x k : Int) (hd0 : -400 ≤ d) (hd1 : d ≤ 500) (b o : Nat) (w : World) (h0 : w.cell? ⟨b, o, none⟩ = some (.int .i64 r)) (h1 : w.cell? ⟨b, o + 1, none⟩ = some (.int .i64 d)) (h2 : w.cell? ⟨b, o + 2, none⟩ = some (.int .i64 x)) : Calls Tryd.prog 41 #[.pointer (some ⟨b, o, none⟩), .int .i64 k] w fun e w' => e = .returned (.tuple #[.bool (kindB k r d x), .int .i64 (kindN k r d x)]) ∧ ∃ n, w' = w.drewN n := by
  by_cases c1 : k = 1
  · subst c1
    have hk : kindB 1 r d x = (decide (0 < r) && decide (10 < d)) := rfl
    have hn : kindN 1 r d x = r := rfl
    rw [hk, hn]
    clear hk hn
    cases g1 : decide (0 < r) <;> cases g2 : decide (10 < d)
    all_goals
      go_enter Tryd.func41, Tryd.ntmps41
      go_wp2
      go_quiet (fail)
      go_wp2
      go_ret2
      exact ⟨by simp, _, rfl⟩
  by_cases c2 : k = 2
  · subst c2
    have hk : kindB 2 r d x = (decide (0 < r) && decide (d ≤ 10)) := rfl
    have hn : kindN 2 r d x = r := rfl
    rw [hk, hn]
    clear hk hn
    cases g1 : decide (0 < r) <;> cases g2 : decide (d ≤ 10)
    all_goals
      go_enter Tryd.func41, Tryd.ntmps41
      go_wp2
      go_quiet (fail)
      go_wp2
      go_ret2
      exact ⟨by simp, _, rfl⟩
  by_cases c3 : k = 3
  · subst c3
    have hk : kindB 3 r d x = decide (150 < x) := rfl
    have hn : kindN 3 r d x = x := rfl
    rw [hk, hn]
    clear hk hn
    go_enter Tryd.func41, Tryd.ntmps41
    go_wp2
    go_quiet (fail)
    go_wp2
    go_ret2
    exact ⟨by simp, _, rfl⟩
  · have hk : kindB k r d x = decide (d < -100) := by unfold kindB; rw [if_neg c1, if_neg c2, if_neg c3]
    have hn : kindN k r d x = -d := by unfold kindN; rw [if_neg c1, if_neg c2, if_neg c3]
    rw [hk, hn]
    clear hk hn
    have n1 : (k == 1) = false := by simp [c1]
    have n2 : (k == 2) = false := by simp [c2]
    have n3 : (k == 3) = false := by simp [c3]
    go_enter Tryd.func41, Tryd.ntmps41
    go_wp2
    go_quiet (fail)
    go_wp2
    go_ret2
    exact ⟨by simp, _, rfl⟩
theorem grip_c (r d x : Int) (hd0 : -400 ≤ d) (hd1 : d ≤ 500) (w : World) : Calls Tryd.prog 21 #[.agg #[.int .i64 r, .int .i64 d, .int .i64 x]] w fun e w' => e = .returned (.int .i64 (gripI r d x)) ∧ Below w.heap.size w w' := by
  have hg : gripI r d x = 350 - (if kindB 1 r d x then 150 else 0) - (if kindB 2 r d x then 270 else 0) - (if kindB 4 r d x then 20 else 0) := rfl
  rw [hg]
  clear hg
  cases k1 : kindB 1 r d x <;> cases k2 : kindB 2 r d x <;> cases k4 : kindB 4 r d x
  all_goals
    go_enter Tryd.func21, Tryd.ntmps21
    go_wp2_with
      (first
        | (go_at_call 20; go_call (isKind_c); rintro e w' ⟨rfl, hb⟩; obtain ⟨qc, qf, qz, qs⟩ := bfacts hb; (try simp only [World.size_alloc, World.size_setCell, World.size_drew, World.heap_drewN] at qs); have za : w.heap.size < w'.heap.size := (by omega); have pa0 : w'.cell? ⟨w.heap.size, 0, none⟩ = some (.int .i64 r) := (by rw [qc _ _ (by first | assumption | (simp; done) | (simp; omega))]; first | assumption | (simp; done) | (simp [*]; done) | (simp [*, go_sem]; done)); have pa1 : w'.cell? ⟨w.heap.size, 1, none⟩ = some (.int .i64 d) := (by rw [qc _ _ (by first | assumption | (simp; done) | (simp; omega))]; first | assumption | (simp; done) | (simp [*]; done) | (simp [*, go_sem]; done)); have pa2 : w'.cell? ⟨w.heap.size, 2, none⟩ = some (.int .i64 x) := (by rw [qc _ _ (by first | assumption | (simp; done) | (simp; omega))]; first | assumption | (simp; done) | (simp [*]; done) | (simp [*, go_sem]; done))))
    go_returns
    refine ⟨by simp, ?_⟩
    repeat' (first
      | (with_reducible exact Below.refl _ _)
      | (with_reducible assumption)
      | (with_reducible refine Below.alloc ?_ ?_ _)
      | (with_reducible refine Below.drew ?_)
      | (with_reducible refine bdrewN ?_ _)
      | (with_reducible refine Below.setCell ?_ ?_ _)
      | (with_reducible refine bthen (by assumption) ?_ ?_)
      | go_size)
set_option maxHeartbeats 2000000 in
theorem l08Grip_c (r d x : Int) (hd0 : -400 ≤ d) (hd1 : d ≤ 500) (b o : Nat) (w : World) (hb : b < w.heap.size) (h0 : w.cell? ⟨b, o, none⟩ = some (.int .i64 r)) (h1 : w.cell? ⟨b, o + 1, none⟩ = some (.int .i64 d)) (h2 : w.cell? ⟨b, o + 2, none⟩ = some (.int .i64 x)) : Calls Tryd.prog 30 #[.pointer (some ⟨b, o, none⟩)] w fun e w' => e = .returned (.int .i64 (gripI r d x)) ∧ Below w.heap.size w w' := by
  have hg : gripI r d x = 350 - (if kindB 1 r d x then 150 else 0) - (if kindB 2 r d x then 270 else 0) - (if kindB 4 r d x then 20 else 0) := rfl
  rw [hg]
  clear hg
  cases k1 : kindB 1 r d x <;> cases k2 : kindB 2 r d x <;> cases k3 : kindB 3 r d x <;> cases k4 : kindB 4 r d x
  all_goals
    go_enter Tryd.func30, Tryd.ntmps30
    go_wp2_with
      (first
        | (go_at_call 41; go_call (l08Is_c r d x); rintro e w' ⟨rfl, nq, rfl⟩))
    refine wp_loop_rounds 5 ?_
    repeat
      any_goals
        rw [rounds_succ]
        go_wp2_with
          (first
            | (go_at_call 41; go_call (l08Is_c r d x); rintro e w' ⟨rfl, nq, rfl⟩))
    go_returns
    refine ⟨by simp, ?_⟩
    repeat' (first
      | (with_reducible exact Below.refl _ _)
      | (with_reducible assumption)
      | (with_reducible refine Below.alloc ?_ ?_ _)
      | (with_reducible refine Below.drew ?_)
      | (with_reducible refine bdrewN ?_ _)
      | (with_reducible refine Below.setCell ?_ ?_ _)
      | (with_reducible refine bthen (by assumption) ?_ ?_)
      | go_size)
theorem implGripOf_c (r d x : Int) (w : World) : Calls Tryd.prog 7 #[.agg #[.int .i64 r, .int .i64 d, .int .i64 x]] w fun e w' => e = .returned (.tuple #[.int .i64 (fGrip r d x).1, .int .i64 (fGrip r d x).2]) ∧ Below w.heap.size w w' := by
  cases hok : hourOk r d x
  all_goals
    try obtain ⟨⟨r0, r1⟩, ⟨d0, d1⟩, ⟨x0, x1⟩⟩ := hourOk_true hok
    go_enter Tryd.func7, Tryd.ntmps7
    go_wp2_with
      (first
        | (go_at_call 19; go_call (validHour_c _ _ _ _); rintro e w' ⟨rfl, hb⟩; obtain ⟨qc, qf, qz, qs⟩ := bfacts hb; (try simp only [World.size_alloc, World.size_setCell, World.size_drew, World.heap_drewN] at qs))
        | (go_at_call 21; go_call (grip_c); rintro e w' ⟨rfl, hb⟩; obtain ⟨qc, qf, qz, qs⟩ := bfacts hb; (try simp only [World.size_alloc, World.size_setCell, World.size_drew, World.heap_drewN] at qs)))
    go_returns
    refine ⟨by simp [fGrip, hok], ?_⟩
    repeat' (first
      | (with_reducible exact Below.refl _ _)
      | (with_reducible assumption)
      | (with_reducible refine Below.alloc ?_ ?_ _)
      | (with_reducible refine Below.drew ?_)
      | (with_reducible refine bdrewN ?_ _)
      | (with_reducible refine Below.setCell ?_ ?_ _)
      | (with_reducible refine bthen (by assumption) ?_ ?_)
      | go_size)
theorem specGripOf_c (r d x : Int) (w : World) : Calls Tryd.prog 15 #[.agg #[.int .i64 r, .int .i64 d, .int .i64 x]] w fun e w' => e = .returned (.tuple #[.int .i64 (fGrip r d x).1, .int .i64 (fGrip r d x).2]) ∧ Below w.heap.size w w' := by
  cases hok : hourOk r d x
  all_goals
    try obtain ⟨⟨r0, r1⟩, ⟨d0, d1⟩, ⟨x0, x1⟩⟩ := hourOk_true hok
    go_enter Tryd.func15, Tryd.ntmps15
    go_wp2_with
      (first
        | (go_at_call 29; go_call (l08One_c r d x); rintro e w' ⟨rfl, rfl⟩)
        | (go_at_call 30; go_call (l08Grip_c r d x); rintro e w' ⟨rfl, hb⟩; obtain ⟨qc, qf, qz, qs⟩ := bfacts hb; (try simp only [World.size_alloc, World.size_setCell, World.size_drew, World.heap_drewN] at qs)))
    go_returns
    refine ⟨by simp [fGrip, hok], ?_⟩
    repeat' (first
      | (with_reducible exact Below.refl _ _)
      | (with_reducible assumption)
      | (with_reducible refine Below.alloc ?_ ?_ _)
      | (with_reducible refine Below.drew ?_)
      | (with_reducible refine bdrewN ?_ _)
      | (with_reducible refine Below.setCell ?_ ?_ _)
      | (with_reducible refine bthen (by assumption) ?_ ?_)
      | go_size)
end Go.Proofs.YtapafambhidlhaaDoor
