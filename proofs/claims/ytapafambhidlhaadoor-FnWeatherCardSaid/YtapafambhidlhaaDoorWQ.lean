/- The plain law of FnWeather. -/
import Derived.Test.YtapafambhidlhaaDoorK
import Derived.Test.YtapafambhidlhaaDoorZ2
import Derived.Test.YtapafambhidlhaaDoorW2
namespace Go.Proofs.YtapafambhidlhaaDoor
open Go.ChangeShapes Go.WideShapes Go.ChangeAt Go.RowKit
set_option linter.unusedVariables false
set_option linter.unusedSimpArgs false

theorem kinds_list (r d x : Int) : kindsTo r d x 4 = (if kindB 1 r d x then [1] else []) ++ (if kindB 2 r d x then [2] else []) ++ (if kindB 3 r d x then [3] else []) ++ (if kindB 4 r d x then [4] else []) := by
  simp only [kindsTo]
  rw [show ((0 : Nat) : Int) + 1 = 1 from rfl, show ((1 : Nat) : Int) + 1 = 2 from rfl, show ((2 : Nat) : Int) + 1 = 3 from rfl, show ((3 : Nat) : Int) + 1 = 4 from rfl]
  cases kindB 1 r d x <;> cases kindB 2 r d x <;> cases kindB 3 r d x <;> cases kindB 4 r d x <;> rfl
theorem kinds_any (r d x : Int) : (kindsTo r d x 4).any (fun y => decide (y = 1)) = kindB 1 r d x ∧ (kindsTo r d x 4).any (fun y => decide (y = 2)) = kindB 2 r d x ∧ (kindsTo r d x 4).any (fun y => decide (y = 3)) = kindB 3 r d x ∧ (kindsTo r d x 4).any (fun y => decide (y = 4)) = kindB 4 r d x := by
  rw [kinds_list]
  cases kindB 1 r d x <;> cases kindB 2 r d x <;> cases kindB 3 r d x <;> cases kindB 4 r d x <;> decide
theorem kinds_in (r d x : Int) : ∀ i, i < (kindsTo r d x 4).length → 1 ≤ nth (kindsTo r d x 4) i ∧ nth (kindsTo r d x 4) i ≤ 4 := by
  rw [kinds_list]
  cases kindB 1 r d x <;> cases kindB 2 r d x <;> cases kindB 3 r d x <;> cases kindB 4 r d x
  all_goals
    intro i hi
    simp at hi
    try omega
  all_goals rcases i with _ | _ | _ | _ | i <;> first | omega | (simp [nth]; done) | (exfalso; omega)
theorem kinds_up (r d x : Int) : ∀ i, i + 1 < (kindsTo r d x 4).length → nth (kindsTo r d x 4) i < nth (kindsTo r d x 4) (i + 1) := by
  rw [kinds_list]
  cases kindB 1 r d x <;> cases kindB 2 r d x <;> cases kindB 3 r d x <;> cases kindB 4 r d x
  all_goals
    intro i hi
    simp at hi
    try omega
  all_goals rcases i with _ | _ | _ | _ | i <;> first | omega | (simp [nth]; done) | (exfalso; omega)
theorem kindB1 (r d x : Int) : kindB 1 r d x = (decide (0 < r) && decide (10 < d)) := rfl
theorem kindB2 (r d x : Int) : kindB 2 r d x = (decide (0 < r) && decide (d ≤ 10)) := rfl
theorem kindB3 (r d x : Int) : kindB 3 r d x = decide (150 < x) := rfl
theorem kindB4 (r d x : Int) : kindB 4 r d x = decide (d < -100) := rfl
theorem grip_best {r d x : Int} (h : hourOk r d x = true) : gripI r d x = 350 ↔ (r = 0 ∧ -100 ≤ d) := by
  obtain ⟨⟨r0, r1⟩, ⟨d0, d1⟩, ⟨x0, x1⟩⟩ := hourOk_true h
  unfold gripI
  rw [kindB1, kindB2, kindB4]
  by_cases h1 : 0 < r <;> by_cases h2 : 10 < d <;> by_cases h4 : d < -100
  all_goals
    have h3 : decide (d ≤ 10) = !decide (10 < d) := by simp [h2]; try omega
    simp only [h1, h2, h3, h4, decide_true, decide_false, Bool.and_true, Bool.and_false, Bool.true_and, Bool.false_and, Bool.not_true, Bool.not_false, if_true, Bool.false_eq_true, if_false]
    omega
def gripAt (z : List Int) (k : Nat) : Int := gripI (tA z k) (tB z k) (tC z k)
theorem longSt_inv (z : List Int) (g : Int) : ∀ k : Nat, ((k : Int) - (longSt z g k).2.2 ≤ (longSt z g k).2.1) ∧ ((longSt z g k).1 + (longSt z g k).2.1 ≤ k) ∧ (∀ j : Nat, (longSt z g k).1 ≤ j → (j : Int) < (longSt z g k).1 + (longSt z g k).2.1 → g ≤ gripAt z j) ∧ (∀ j : Nat, (longSt z g k).2.2 ≤ j → j < k → g ≤ gripAt z j)
  | 0 => by
    refine ⟨by simp [longSt], by simp [longSt], ?_, ?_⟩
    · intro j h1 h2
      simp [longSt] at h1 h2
      omega
    · intro j _ h
      omega
  | k + 1 => by
    obtain ⟨h1, h2, h3, h4⟩ := longSt_inv z g k
    obtain ⟨⟨b0, b1⟩, ⟨b2, b3⟩, b4, b5⟩ := longSt_bd z g k
    by_cases hg : gripI (tA z k) (tB z k) (tC z k) < g
    · rw [longSt_low hg]
      generalize longSt z g k = s at *
      obtain ⟨s0, s1, s2⟩ := s
      simp only at *
      refine ⟨by omega, by omega, h3, fun j e1 e2 => ?_⟩
      omega
    · have hk : g ≤ gripAt z k := by unfold gripAt; omega
      have h4' : ∀ j : Nat, (longSt z g k).2.2 ≤ j → j < k + 1 → g ≤ gripAt z j := fun j e1 e2 => by
        rcases Nat.lt_or_ge j k with h | h
        · exact h4 j e1 h
        · obtain rfl : j = k := by omega
          exact hk
      by_cases hb : (longSt z g k).2.1 < (k : Int) + 1 - (longSt z g k).2.2
      · rw [longSt_best hg hb]
        generalize longSt z g k = s at *
        obtain ⟨s0, s1, s2⟩ := s
        simp only at *
        refine ⟨by omega, by omega, fun j e1 e2 => h4' j e1 (by omega), h4'⟩
      · rw [longSt_on hg hb]
        generalize longSt z g k = s at *
        obtain ⟨s0, s1, s2⟩ := s
        simp only at *
        exact ⟨by omega, by omega, h3, h4'⟩
theorem longSt_step (z : List Int) (g : Int) (k : Nat) : (longSt z g k).2.1 ≤ (longSt z g (k + 1)).2.1 := by
  by_cases hg : gripI (tA z k) (tB z k) (tC z k) < g
  · rw [longSt_low hg]
    exact Int.le_refl _
  · by_cases hb : (longSt z g k).2.1 < (k : Int) + 1 - (longSt z g k).2.2
    · rw [longSt_best hg hb]
      exact Int.le_of_lt hb
    · rw [longSt_on hg hb]
      exact Int.le_refl _
theorem longSt_mono (z : List Int) (g : Int) (k : Nat) : ∀ m : Nat, (longSt z g k).2.1 ≤ (longSt z g (k + m)).2.1
  | 0 => Int.le_refl _
  | m + 1 => Int.le_trans (longSt_mono z g k m) (longSt_step z g (k + m))
/-- The row of good hours that ends ahead of hour k. -/
def rowAt (z : List Int) (g : Int) (k : Nat) : Int := k - (longSt z g k).2.2
theorem rowAt_low {z : List Int} {g : Int} {k : Nat} (h : gripAt z k < g) : rowAt z g (k + 1) = 0 := by
  unfold rowAt
  rw [longSt_low h]
  simp only
  omega
theorem rowAt_on {z : List Int} {g : Int} {k : Nat} (h : ¬ gripAt z k < g) : rowAt z g (k + 1) = rowAt z g k + 1 := by
  unfold rowAt
  by_cases hb : (longSt z g k).2.1 < (k : Int) + 1 - (longSt z g k).2.2
  · rw [longSt_best h hb]
    simp only
    omega
  · rw [longSt_on h hb]
    simp only
    omega
theorem rowAt_bd {z : List Int} {g : Int} {n k : Nat} (hk : k ≤ n) : 0 ≤ rowAt z g k ∧ rowAt z g k ≤ k ∧ rowAt z g k ≤ (longSt z g n).2.1 := by
  obtain ⟨_, _, b4, b5⟩ := longSt_bd z g k
  obtain ⟨h1, _⟩ := longSt_inv z g k
  have h2 := longSt_mono z g k (n - k)
  rw [show k + (n - k) = n by omega] at h2
  unfold rowAt
  omega
/-- What a list that has a good time gives. -/
theorem fLong_ok {z : List Int} {n : Nat} {g a m : Int} (h : fLong z n g = (a, m, 0)) : (n ≤ 48 ∧ ∀ k, k < n → hourOk (tA z k) (tB z k) (tC z k) = true) ∧ (0 ≤ g ∧ g ≤ 1000) ∧ 0 ≤ a ∧ 1 ≤ m ∧ a + m ≤ n ∧ (∀ j : Nat, a ≤ j → (j : Int) < a + m → g ≤ gripAt z j) ∧ ∀ k, k ≤ n → 0 ≤ rowAt z g k ∧ rowAt z g k ≤ k ∧ rowAt z g k ≤ m := by
  cases hh : hoursB z n
  · simp [fLong, hh] at h
  cases hg : inB g 0 1000
  · simp [fLong, hh, hg] at h
  by_cases h0 : (longSt z g n).2.1 = 0
  · simp [fLong, hh, hg, h0] at h
  · simp only [fLong, hh, hg, h0, if_true, if_false] at h
    have e1 := congrArg Prod.fst h
    have e2 := congrArg (fun x => x.2.1) h
    simp only at e1 e2
    obtain ⟨i1, i2, i3, i4⟩ := longSt_inv z g n
    obtain ⟨⟨b0, b1⟩, ⟨b2, b3⟩, b4, b5⟩ := longSt_bd z g n
    have hr := fun k hk => rowAt_bd (z := z) (g := g) (n := n) (k := k) hk
    rw [e1] at i2 i3 b0
    rw [e2] at i2 i3 h0 b2 hr
    exact ⟨hoursB_true hh, inB_true hg, by omega, by omega, by omega, i3, hr⟩
theorem fLong_no {z : List Int} {n : Nat} {g a m q : Int} (h : fLong z n g = (a, m, q)) (hq : q ≠ 0) : a = 0 ∧ m = 0 := by
  unfold fLong at h
  (repeat' split at h) <;> (simp only [Prod.mk.injEq] at h; omega)
end Go.Proofs.YtapafambhidlhaaDoor
