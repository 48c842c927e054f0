/- symMerge's two short cases: plain. -/
import Derived.Test.YtbdhelekmdpbiaaCI
namespace Go.Proofs.Ytbdhelekmdpbiaa
open Go.ChangeShapes Go.WideShapes Go.ChangeAt Go.RowKit
set_option linter.unusedVariables false
set_option linter.unusedSimpArgs false

/-- The thing of place a has been moved up to place k. -/
def ShR (a k : Nat) (f g : Nat → Int) : Prop := g k = f a ∧ (∀ t, a ≤ t → t < k → g t = f (t + 1)) ∧ ∀ t, (t < a ∨ k < t) → g t = f t
theorem ShR.refl (a : Nat) (f : Nat → Int) : ShR a a f f := ⟨rfl, fun t h1 h2 => by omega, fun _ _ => rfl⟩
theorem ShR.step {a k : Nat} {f g h : Nat → Int} (hk : a ≤ k) (x : ShR a k f g) (s : Sw2 k (k + 1) g h) : ShR a (k + 1) f h := by
  obtain ⟨x1, x2, x3⟩ := x
  obtain ⟨s1, s2, s3⟩ := s
  refine ⟨s2.trans x1, fun t h1 h2 => ?_, fun t ht => ?_⟩
  · by_cases e : t = k
    · rw [e, s1, x3 (k + 1) (by omega)]
    · rw [s3 t e (by omega)]
      exact x2 t h1 (by omega)
  · rw [s3 t (by omega) (by omega)]
    exact x3 t (by omega)
theorem ShR.pi {a k b : Nat} {f g : Nat → Int} (x : ShR a k f g) (hk : a ≤ k) (hb : k < b) : PI a b f g := by
  obtain ⟨x1, x2, x3⟩ := x
  refine ⟨fun i hi => x3 i (by omega), fun i k1 k2 => ?_, fun j k1 k2 => ?_⟩
  · by_cases e1 : i < k
    · exact ⟨i + 1, by omega, by omega, x2 i k1 e1⟩
    · by_cases e2 : i = k
      · exact ⟨a, Nat.le_refl _, by omega, by rw [e2, x1]⟩
      · exact ⟨i, k1, k2, x3 i (by omega)⟩
  · by_cases e1 : j = a
    · exact ⟨k, hk, hb, by rw [e1, x1]⟩
    · by_cases e2 : j ≤ k
      · refine ⟨j - 1, by omega, by omega, ?_⟩
        rw [x2 (j - 1) (by omega) (by omega), show j - 1 + 1 = j by omega]
      · exact ⟨j, k1, k2, x3 j (by omega)⟩
theorem ShR.seg {p : Int → Int} {a k b : Nat} {f g : Nat → Int} (x : ShR a k f g) (hk : a ≤ k) (hb : k < b) (hs : Seg p f (a + 1) b) (h1 : ∀ t, a < t → t ≤ k → lx p (f t) (f a)) (h2 : ∀ t, k < t → t < b → lx p (f a) (f t)) : Seg p g a b := by
  obtain ⟨x1, x2, x3⟩ := x
  intro i j q1 q2 q3
  by_cases c1 : j < k
  · rw [x2 i q1 (by omega), x2 j (by omega) c1]
    exact hs _ _ (by omega) (by omega) (by omega)
  · by_cases c2 : j = k
    · rw [c2, x1, x2 i q1 (by omega)]
      exact h1 _ (by omega) (by omega)
    · rw [x3 j (by omega)]
      by_cases c3 : i < k
      · rw [x2 i q1 c3]
        exact hs _ _ (by omega) (by omega) q3
      · by_cases c4 : i = k
        · rw [c4, x1]
          exact h2 j (by omega) q3
        · rw [x3 i (by omega)]
          exact hs i j (by omega) q2 q3
/-- The thing of place m has been moved down to place k. -/
def ShL (m k : Nat) (f g : Nat → Int) : Prop := g k = f m ∧ (∀ t, k < t → t ≤ m → g t = f (t - 1)) ∧ ∀ t, (t < k ∨ m < t) → g t = f t
theorem ShL.refl (m : Nat) (f : Nat → Int) : ShL m m f f := ⟨rfl, fun t h1 h2 => by omega, fun _ _ => rfl⟩
theorem ShL.step {m k : Nat} {f g h : Nat → Int} (hk : k + 1 ≤ m) (x : ShL m (k + 1) f g) (s : Sw2 (k + 1) k g h) : ShL m k f h := by
  obtain ⟨x1, x2, x3⟩ := x
  obtain ⟨s1, s2, s3⟩ := s
  refine ⟨s2.trans x1, fun t h1 h2 => ?_, fun t ht => ?_⟩
  · by_cases e : t = k + 1
    · rw [e, s1, x3 k (by omega), Nat.add_sub_cancel]
    · rw [s3 t e (by omega)]
      exact x2 t (by omega) h2
  · rw [s3 t (by omega) (by omega)]
    exact x3 t (by omega)
theorem ShL.pi {m k a : Nat} {f g : Nat → Int} (x : ShL m k f g) (hk : k ≤ m) (ha : a ≤ k) : PI a (m + 1) f g := by
  obtain ⟨x1, x2, x3⟩ := x
  refine ⟨fun i hi => x3 i (by omega), fun i k1 k2 => ?_, fun j k1 k2 => ?_⟩
  · by_cases e1 : k < i
    · exact ⟨i - 1, by omega, by omega, x2 i e1 (by omega)⟩
    · by_cases e2 : i = k
      · exact ⟨m, by omega, by omega, by rw [e2, x1]⟩
      · exact ⟨i, k1, k2, x3 i (by omega)⟩
  · by_cases e1 : j = m
    · exact ⟨k, ha, by omega, by rw [e1, x1]⟩
    · by_cases e2 : k ≤ j
      · refine ⟨j + 1, by omega, by omega, ?_⟩
        rw [x2 (j + 1) (by omega) (by omega), Nat.add_sub_cancel]
      · exact ⟨j, k1, k2, x3 j (by omega)⟩
theorem ShL.seg {p : Int → Int} {m k a : Nat} {f g : Nat → Int} (x : ShL m k f g) (hk : k ≤ m) (ha : a ≤ k) (hs : Seg p f a m) (h1 : ∀ t, a ≤ t → t < k → lx p (f t) (f m)) (h2 : ∀ t, k ≤ t → t < m → lx p (f m) (f t)) : Seg p g a (m + 1) := by
  obtain ⟨x1, x2, x3⟩ := x
  intro i j q1 q2 q3
  by_cases c1 : k < i
  · rw [x2 i c1 (by omega), x2 j (by omega) (by omega)]
    exact hs _ _ (by omega) (by omega) (by omega)
  · by_cases c2 : i = k
    · rw [c2, x1, x2 j (by omega) (by omega)]
      exact h2 _ (by omega) (by omega)
    · rw [x3 i (by omega)]
      by_cases c3 : k < j
      · rw [x2 j c3 (by omega)]
        exact hs _ _ q1 (by omega) (by omega)
      · by_cases c4 : j = k
        · rw [c4, x1]
          exact h1 i q1 (by omega)
        · rw [x3 j (by omega)]
          exact hs i j q1 q2 (by omega)
end Go.Proofs.Ytbdhelekmdpbiaa
