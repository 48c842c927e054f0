/- What the law on profiles says of rides: plain. -/
import Derived.Test.YtmmabkmcgffnpaaO6
import Derived.Test.YtmmabkmcgffnpaaO8
import Derived.Test.YtmmabkmcgffnpaaO5
namespace Go.Proofs.Ytmmabkmcgffnpaa
set_option linter.unusedVariables false
set_option linter.unusedSimpArgs false

/-- How many seconds a ride has, from a place and a speed on. -/
def tF (a c r y way : Int) : Nat → Int → Int → Nat
  | 0, _, _ => 0
  | n + 1, pl, sp => if pl < way then tF a c r y way n (pl + nextI a c r y sp (way - pl)) (nextI a c r y sp (way - pl)) + 1 else 0
section
variable {a c r y way : Int}
theorem tF_on {n : Nat} {pl sp : Int} (h : pl < way) : tF a c r y way (n + 1) pl sp = tF a c r y way n (pl + nextI a c r y sp (way - pl)) (nextI a c r y sp (way - pl)) + 1 := by rw [tF, if_pos h]
theorem tF_end {n : Nat} {pl sp : Int} (h : ¬ pl < way) : tF a c r y way n pl sp = 0 := by
  cases n with
  | zero => rfl
  | succ n => rw [tF, if_neg h]
theorem ride_time (n : Nat) (pl sp k : Int) : rideF stTime a c r y way n pl sp k = k + tF a c r y way n pl sp := by
  induction n generalizing pl sp k with
  | zero => simp [rideF, tF]
  | succ n ih =>
    by_cases h : pl < way
    · rw [rideF_go h rfl, tF_on h, ih]
      simp [stTime]
      omega
    · rw [rideF_end h, tF_end h]
      simp
variable (a0 : 0 ≤ a) (h0 : r ≤ c) (r0 : 100 ≤ r)
include a0 h0 r0
/-- The seconds of a ride: it goes on till its last one, and then stands at the end. -/
theorem after_t (n : Nat) (pl sp : Int) (h1 : pl ≤ way) (h2 : way - pl ≤ n) :
    (∀ k, k < tF a c r y way n pl sp → (afterF a c r y way k pl sp).1 < way ∧ pl ≤ (afterF a c r y way k pl sp).1) ∧ (afterF a c r y way (tF a c r y way n pl sp) pl sp).1 = way ∧ ∀ m, afterF a c r y way (tF a c r y way n pl sp + 1 + m) pl sp = (way, 0) := by
  induction n generalizing pl sp with
  | zero =>
    have e : pl = way := by omega
    refine ⟨fun k hk => by simp [tF] at hk, by simp [tF, afterF, e], fun m => ?_⟩
    rw [show tF a c r y way 0 pl sp + 1 + m = m + 1 by simp [tF]; omega, afterF_end e]
  | succ n ih =>
    by_cases h : pl < way
    · obtain ⟨v0, v1, _, v3, _⟩ := nextI_bd (a := a) (c := c) (r := r) (y := y) (speed := sp) (left := way - pl) a0 h0 r0 (by omega)
      have hv := v3 (by omega)
      obtain ⟨i1, i2, i3⟩ := ih (pl + nextI a c r y sp (way - pl)) (nextI a c r y sp (way - pl)) (by omega) (by omega)
      rw [tF_on h]
      refine ⟨fun k hk => ?_, ?_, fun m => ?_⟩
      · cases k with
        | zero => exact ⟨h, Int.le_refl _⟩
        | succ k =>
          rw [afterF_on (by omega)]
          have := i1 k (by omega)
          omega
      · rw [afterF_on (by omega)]
        exact i2
      · have := i3 m
        rw [show tF a c r y way n (pl + nextI a c r y sp (way - pl)) (nextI a c r y sp (way - pl)) + 1 + 1 + m = (tF a c r y way n (pl + nextI a c r y sp (way - pl)) (nextI a c r y sp (way - pl)) + 1 + m) + 1 by omega, afterF_on (by omega)]
        exact this
    · have e : pl = way := by omega
      rw [tF_end h]
      refine ⟨fun k hk => by omega, by simp [afterF, e], fun m => ?_⟩
      rw [show 0 + 1 + m = m + 1 by omega, afterF_end e]
omit a0 h0 r0
/-- One second more. -/
theorem after_step (n : Nat) (k : Nat) (pl sp : Int) (hk : k < tF a c r y way n pl sp) :
    afterF a c r y way (k + 1) pl sp = ((afterF a c r y way k pl sp).1 + nextI a c r y (afterF a c r y way k pl sp).2 (way - (afterF a c r y way k pl sp).1), nextI a c r y (afterF a c r y way k pl sp).2 (way - (afterF a c r y way k pl sp).1)) := by
  induction k generalizing n pl sp with
  | zero =>
    cases n with
    | zero => simp [tF] at hk
    | succ n =>
      by_cases h : pl < way
      · rw [afterF_on (by omega)]
        rfl
      · rw [tF_end h] at hk
        omega
  | succ k ih =>
    cases n with
    | zero => simp [tF] at hk
    | succ n =>
      by_cases h : pl < way
      · rw [tF_on h] at hk
        rw [afterF_on (by omega), ih n _ _ (by omega), afterF_on (n := k) (by omega)]
      · rw [tF_end h] at hk
        omega
include a0 h0 r0
/-- The speeds: from 0 to what a profile allows; and 1 at least where the ride goes on. -/
theorem after_speed (n : Nat) (k : Nat) (hk : k ≤ tF a c r y way n 0 0) (hw : 0 ≤ way) (hn : way ≤ n) : 0 ≤ (afterF a c r y way k 0 0).2 ∧ (afterF a c r y way k 0 0).2 ≤ c ∧ (0 < k → 0 < (afterF a c r y way k 0 0).2) := by
  cases k with
  | zero => simp [afterF]; omega
  | succ k =>
    have h := (after_t (y := y) a0 h0 r0 n 0 0 hw (by omega)).1 k (by omega)
    rw [after_step n k 0 0 (by omega)]
    obtain ⟨v0, v1, v2, v3, _⟩ := nextI_bd (a := a) (c := c) (r := r) (y := y) (speed := (afterF a c r y way k 0 0).2) (left := way - (afterF a c r y way k 0 0).1) a0 h0 r0 (by omega)
    exact ⟨v0, v2, fun _ => v3 (by omega)⟩
omit a0 h0 r0
/-- The top speed is one of them, and none is greater. -/
theorem ride_top (n : Nat) (pl sp s : Int) : s ≤ rideF stTop a c r y way n pl sp s ∧ (∀ k, k < tF a c r y way n pl sp → (afterF a c r y way (k + 1) pl sp).2 ≤ rideF stTop a c r y way n pl sp s) ∧ (rideF stTop a c r y way n pl sp s = s ∨ ∃ k, k < tF a c r y way n pl sp ∧ rideF stTop a c r y way n pl sp s = (afterF a c r y way (k + 1) pl sp).2) := by
  induction n generalizing pl sp s with
  | zero => exact ⟨by simp [rideF], fun k hk => by simp [tF] at hk, .inl rfl⟩
  | succ n ih =>
    by_cases h : pl < way
    · rw [rideF_go h rfl, tF_on h]
      simp only [stTop]
      obtain ⟨i1, i2, i3⟩ := ih (pl + nextI a c r y sp (way - pl)) (nextI a c r y sp (way - pl)) (max s (nextI a c r y sp (way - pl)))
      have e1 : (afterF a c r y way (0 + 1) pl sp).2 = nextI a c r y sp (way - pl) := by rw [afterF_on (by omega)]; rfl
      refine ⟨by omega, fun k hk => ?_, ?_⟩
      · cases k with
        | zero => rw [e1]; omega
        | succ k =>
          rw [afterF_on (by omega)]
          exact i2 k (by omega)
      · rcases i3 with i3 | ⟨k, hk, i3⟩
        · by_cases g : s < nextI a c r y sp (way - pl)
          · exact .inr ⟨0, by omega, by rw [i3, e1]; omega⟩
          · exact .inl (by rw [i3]; omega)
        · refine .inr ⟨k + 1, by omega, ?_⟩
          rw [i3, afterF_on (n := k + 1) (pl := pl) (sp := sp) (by omega)]
    · rw [rideF_end h, tF_end h]
      exact ⟨Int.le_refl _, fun k hk => by omega, .inl rfl⟩
/-- How many seconds are fast. -/
theorem ride_fast (q : Int) (n : Nat) (pl sp s : Int) : (s ≤ rideF (stFast q) a c r y way n pl sp s ∧ rideF (stFast q) a c r y way n pl sp s ≤ s + tF a c r y way n pl sp) ∧ ((∃ k, k < tF a c r y way n pl sp ∧ q ≤ (afterF a c r y way (k + 1) pl sp).2) → s + 1 ≤ rideF (stFast q) a c r y way n pl sp s) ∧ ((∀ k, k < tF a c r y way n pl sp → (afterF a c r y way (k + 1) pl sp).2 < q) → rideF (stFast q) a c r y way n pl sp s = s) ∧ ((∀ k, k < tF a c r y way n pl sp → q ≤ (afterF a c r y way (k + 1) pl sp).2) → rideF (stFast q) a c r y way n pl sp s = s + tF a c r y way n pl sp) := by
  induction n generalizing pl sp s with
  | zero => exact ⟨by simp [rideF, tF], fun ⟨k, hk, _⟩ => by simp [tF] at hk, fun _ => rfl, fun _ => by simp [rideF, tF]⟩
  | succ n ih =>
    by_cases h : pl < way
    · rw [rideF_go h rfl, tF_on h]
      simp only [stFast]
      have e1 : (afterF a c r y way (0 + 1) pl sp).2 = nextI a c r y sp (way - pl) := by rw [afterF_on (by omega)]; rfl
      have e2 : ∀ k, (afterF a c r y way (k + 1 + 1) pl sp).2 = (afterF a c r y way (k + 1) (pl + nextI a c r y sp (way - pl)) (nextI a c r y sp (way - pl))).2 := fun k => by rw [afterF_on (n := k + 1) (by omega)]
      by_cases g : q ≤ nextI a c r y sp (way - pl)
      · rw [if_pos g]
        obtain ⟨i0, i1, i2, i3⟩ := ih (pl + nextI a c r y sp (way - pl)) (nextI a c r y sp (way - pl)) (s + 1)
        refine ⟨by omega, fun _ => by omega, fun hall => ?_, fun hall => ?_⟩
        · have := hall 0 (by omega)
          omega
        · rw [i3 (fun k hk => by rw [← e2]; exact hall (k + 1) (by omega))]
          omega
      · rw [if_neg g]
        obtain ⟨i0, i1, i2, i3⟩ := ih (pl + nextI a c r y sp (way - pl)) (nextI a c r y sp (way - pl)) s
        refine ⟨by omega, fun ⟨k, hk, hq⟩ => ?_, fun hall => ?_, fun hall => ?_⟩
        · cases k with
          | zero => omega
          | succ k =>
            exact i1 ⟨k, by omega, by rw [← e2]; exact hq⟩
        · exact i2 (fun k hk => by rw [← e2]; exact hall (k + 1) (by omega))
        · have := hall 0 (by omega)
          omega
    · rw [rideF_end h, tF_end h]
      exact ⟨by omega, fun ⟨k, hk, _⟩ => by omega, fun _ => rfl, fun _ => by omega⟩
include a0 h0 r0
/-- When a place is reached. -/
theorem ride_at (q : Int) (n : Nat) (pl sp k : Int) (h1 : pl < q) (h2 : q ≤ way) (h3 : way - pl ≤ n) : ∃ m, m < tF a c r y way n pl sp ∧ rideF (stAt q) a c r y way n pl sp k = k + m + 1 ∧ q ≤ (afterF a c r y way (m + 1) pl sp).1 ∧ (afterF a c r y way m pl sp).1 < q := by
  induction n generalizing pl sp k with
  | zero => omega
  | succ n ih =>
    have h : pl < way := by omega
    obtain ⟨v0, v1, _, v3, _⟩ := nextI_bd (a := a) (c := c) (r := r) (y := y) (speed := sp) (left := way - pl) a0 h0 r0 (by omega)
    have hv := v3 (by omega)
    by_cases g : pl + nextI a c r y sp (way - pl) < q
    · rw [rideF_go h (by simp [stAt, g]), tF_on h]
      obtain ⟨m, i1, i2, i3, i4⟩ := ih (pl + nextI a c r y sp (way - pl)) (nextI a c r y sp (way - pl)) (k + 1) g (by omega)
      refine ⟨m + 1, by omega, ?_, ?_, ?_⟩
      · simp only [stAt]
        rw [i2]
        omega
      · rw [afterF_on (n := m + 1) (by omega)]
        exact i3
      · rw [afterF_on (n := m) (by omega)]
        exact i4
    · rw [rideF_stop h (by simp [stAt, g]), tF_on h]
      refine ⟨0, by omega, by simp [stAt], ?_, h1⟩
      rw [afterF_on (by omega)]
      show q ≤ pl + nextI a c r y sp (way - pl)
      omega
end
end Go.Proofs.Ytmmabkmcgffnpaa
