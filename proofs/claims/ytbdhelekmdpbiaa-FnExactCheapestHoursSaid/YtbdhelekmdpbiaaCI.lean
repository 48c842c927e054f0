/- Insertion by price keeps the order (price, index): plain. -/
import Derived.Test.YtbdhelekmdpbiaaCP
namespace Go.Proofs.Ytbdhelekmdpbiaa
open Go.ChangeShapes Go.WideShapes Go.ChangeAt Go.RowKit
set_option linter.unusedVariables false
set_option linter.unusedSimpArgs false

/-- Place j holds hour i, which is being moved down; all else of a to i is in order. -/
def InsI (p : Int → Int) (a i j : Nat) (f : Nat → Int) : Prop := (∀ s t, a ≤ s → s < t → t ≤ i → s ≠ j → t ≠ j → lx p (f s) (f t)) ∧ (∀ t, j < t → t ≤ i → lx p (f j) (f t)) ∧ f j = i ∧ ∀ s, a ≤ s → s ≤ i → s ≠ j → 0 ≤ f s ∧ f s < i
theorem ins_start {p : Int → Int} {a i : Nat} {f : Nat → Int} (hs : Seg p f a i) (hv : ∀ s, a ≤ s → s < i → 0 ≤ f s ∧ f s < i) (hi : f i = i) : InsI p a i i f :=
  ⟨fun s t h1 h2 h3 h4 h5 => hs s t h1 h2 (by omega), fun t h1 h2 => by omega, hi, fun s h1 h2 h3 => hv s h1 (by omega)⟩
/-- Two places exchanged. -/
def Sw2 (x y : Nat) (f g : Nat → Int) : Prop := g x = f y ∧ g y = f x ∧ ∀ k, k ≠ x → k ≠ y → g k = f k
theorem Sw2.pi {x y a b : Nat} {f g : Nat → Int} (h : Sw2 x y f g) (hx : a ≤ x ∧ x < b) (hy : a ≤ y ∧ y < b) : PI a b f g := by
  obtain ⟨h1, h2, h3⟩ := h
  refine ⟨fun i hi => h3 i (by omega) (by omega), fun i k1 k2 => ?_, fun j k1 k2 => ?_⟩
  · by_cases e1 : i = x
    · subst e1
      exact ⟨y, hy.1, hy.2, h1⟩
    · by_cases e2 : i = y
      · subst e2
        exact ⟨x, hx.1, hx.2, h2⟩
      · exact ⟨i, k1, k2, h3 i e1 e2⟩
  · by_cases e1 : j = x
    · subst e1
      exact ⟨y, hy.1, hy.2, h2⟩
    · by_cases e2 : j = y
      · subst e2
        exact ⟨x, hx.1, hx.2, h1⟩
      · exact ⟨j, k1, k2, h3 j e1 e2⟩
theorem ins_step {p : Int → Int} {a i j : Nat} {f g : Nat → Int} (h : InsI p a i (j + 1) f) (ha : a ≤ j) (hi : j + 1 ≤ i) (hp : p (f (j + 1)) < p (f j)) (hg : Sw2 (j + 1) j f g) : InsI p a i j g := by
  obtain ⟨h1, h2, h3, h4⟩ := h
  obtain ⟨g1, g2, g3⟩ := hg
  have hval : ∀ s, s ≠ j → g s = if s = j + 1 then f j else f s := fun s hs => by
    by_cases e : s = j + 1
    · subst e
      rw [if_pos rfl, g1]
    · rw [if_neg e, g3 s e hs]
  refine ⟨fun s t k1 k2 k3 k4 k5 => ?_, fun t k1 k2 => ?_, by rw [g2, h3], fun s k1 k2 k3 => ?_⟩
  · rw [hval s k4, hval t k5]
    by_cases e1 : s = j + 1 <;> by_cases e2 : t = j + 1
    · omega
    · rw [if_pos e1, if_neg e2]
      exact h1 j t ha (by omega) k3 (by omega) e2
    · rw [if_neg e1, if_pos e2]
      exact h1 s j k1 (by omega) (by omega) e1 (by omega)
    · rw [if_neg e1, if_neg e2]
      exact h1 s t k1 k2 k3 e1 e2
  · rw [hval t (by omega), g2]
    by_cases e : t = j + 1
    · rw [if_pos e]
      exact .inl hp
    · rw [if_neg e]
      exact h2 t (by omega) k2
  · rw [hval s k3]
    by_cases e : s = j + 1
    · rw [if_pos e]
      exact h4 j ha (by omega) (by omega)
    · rw [if_neg e]
      exact h4 s k1 k2 e
theorem ins_stop {p : Int → Int} {a i j : Nat} {f : Nat → Int} (h : InsI p a i j f) (haj : a ≤ j) (hji : j ≤ i) (hs : j = a ∨ ¬ p (f j) < p (f (j - 1))) : Seg p f a (i + 1) := by
  obtain ⟨h1, h2, h3, h4⟩ := h
  have hlow : ∀ s, a ≤ s → s < j → lx p (f s) (f j) := fun s k1 k2 => by
    rcases hs with rfl | hs
    · omega
    · have q : lx p (f (j - 1)) (f j) := by
        have := (h4 (j - 1) (by omega) (by omega) (by omega)).2
        unfold lx
        omega
      by_cases e : s = j - 1
      · rw [e]
        exact q
      · exact lx_trans (h1 s (j - 1) k1 (by omega) (by omega) (by omega) (by omega)) q
  intro s t k1 k2 k3
  by_cases e1 : s = j
  · subst e1
    exact h2 t k2 (by omega)
  · by_cases e2 : t = j
    · subst e2
      exact hlow s k1 k2
    · exact h1 s t k1 k2 (by omega) e1 e2
end Go.Proofs.Ytbdhelekmdpbiaa
