/- The plain laws of a stable sort by symmetric merging: rotation, splitting, joining. No conditions. -/
import Derived.Test.YtbdhelekmdpbiaaOW
namespace Go.Proofs.Ytbdhelekmdpbiaa
open Go.ChangeShapes Go.WideShapes Go.ChangeAt Go.RowKit
set_option linter.unusedVariables false
set_option linter.unusedSimpArgs false

/-- Cheaper, or as cheap and earlier. -/
def lx (p : Int → Int) (x y : Int) : Prop := p x < p y ∨ (p x = p y ∧ x < y)
theorem lx_trans {p : Int → Int} {x y z : Int} (h : lx p x y) (k : lx p y z) : lx p x z := by
  unfold lx at *
  omega
/-- Places a to b are in order. -/
def Seg (p : Int → Int) (f : Nat → Int) (a b : Nat) : Prop := ∀ i j, a ≤ i → i < j → j < b → lx p (f i) (f j)
/-- Each thing of the left part came before each of the right. -/
def Bef (f : Nat → Int) (a m b : Nat) : Prop := ∀ i j, a ≤ i → i < m → m ≤ j → j < b → f i < f j
/-- The same things in places a to b, all else as before. -/
def PI (a b : Nat) (f g : Nat → Int) : Prop := (∀ i, i < a ∨ b ≤ i → g i = f i) ∧ (∀ i, a ≤ i → i < b → ∃ j, a ≤ j ∧ j < b ∧ g i = f j) ∧ ∀ j, a ≤ j → j < b → ∃ i, a ≤ i ∧ i < b ∧ g i = f j
theorem PI.refl (a b : Nat) (f : Nat → Int) : PI a b f f := ⟨fun _ _ => rfl, fun i h k => ⟨i, h, k, rfl⟩, fun i h k => ⟨i, h, k, rfl⟩⟩
theorem PI.trans {a b : Nat} {f g h : Nat → Int} (x : PI a b f g) (y : PI a b g h) : PI a b f h := by
  refine ⟨fun i hi => (y.1 i hi).trans (x.1 i hi), fun i h1 h2 => ?_, fun j h1 h2 => ?_⟩
  · obtain ⟨j, j1, j2, e⟩ := y.2.1 i h1 h2
    obtain ⟨k, k1, k2, e'⟩ := x.2.1 j j1 j2
    exact ⟨k, k1, k2, e.trans e'⟩
  · obtain ⟨i, i1, i2, e⟩ := x.2.2 j h1 h2
    obtain ⟨k, k1, k2, e'⟩ := y.2.2 i i1 i2
    exact ⟨k, k1, k2, e'.trans e⟩
theorem PI.wide {a b a' b' : Nat} {f g : Nat → Int} (x : PI a b f g) (h1 : a' ≤ a) (h2 : b ≤ b') : PI a' b' f g := by
  refine ⟨fun i hi => x.1 i (by omega), fun i k1 k2 => ?_, fun j k1 k2 => ?_⟩
  · by_cases h : a ≤ i ∧ i < b
    · obtain ⟨j, j1, j2, e⟩ := x.2.1 i h.1 h.2
      exact ⟨j, by omega, by omega, e⟩
    · exact ⟨i, k1, k2, x.1 i (by omega)⟩
  · by_cases h : a ≤ j ∧ j < b
    · obtain ⟨i, i1, i2, e⟩ := x.2.2 j h.1 h.2
      exact ⟨i, by omega, by omega, e⟩
    · exact ⟨j, k1, k2, x.1 j (by omega)⟩
/-- g is f with places a to m and m to b exchanged as blocks. -/
def Rot (a m b : Nat) (f g : Nat → Int) : Prop := (∀ i, i < a ∨ b ≤ i → g i = f i) ∧ (∀ t, t < b - m → g (a + t) = f (m + t)) ∧ ∀ t, t < m - a → g (a + (b - m) + t) = f (a + t)
theorem Rot.pi {a m b : Nat} {f g : Nat → Int} (h : Rot a m b f g) (h1 : a ≤ m) (h2 : m ≤ b) : PI a b f g := by
  refine ⟨h.1, fun i k1 k2 => ?_, fun j k1 k2 => ?_⟩
  · by_cases hi : i < a + (b - m)
    · refine ⟨m + (i - a), by omega, by omega, ?_⟩
      have := h.2.1 (i - a) (by omega)
      rwa [show a + (i - a) = i by omega] at this
    · refine ⟨a + (i - (a + (b - m))), by omega, by omega, ?_⟩
      have := h.2.2 (i - (a + (b - m))) (by omega)
      rwa [show a + (b - m) + (i - (a + (b - m))) = i by omega] at this
  · by_cases hj : j < m
    · refine ⟨a + (b - m) + (j - a), by omega, by omega, ?_⟩
      have := h.2.2 (j - a) (by omega)
      rwa [show a + (j - a) = j by omega] at this
    · refine ⟨a + (j - m), by omega, by omega, ?_⟩
      have := h.2.1 (j - m) (by omega)
      rwa [show m + (j - m) = j by omega] at this
/-- One round of the rotation, the left block longer: g is cur with [m-i, m-i+j) and [m, m+j) exchanged. -/
def Swr (x y k : Nat) (f g : Nat → Int) : Prop := (∀ t, t < k → g (x + t) = f (y + t) ∧ g (y + t) = f (x + t)) ∧ ∀ i, (i < x ∨ x + k ≤ i) → (i < y ∨ y + k ≤ i) → g i = f i
theorem rot_left {m i j : Nat} {f g R : Nat → Int} (hj : 0 < j) (hij : j < i) (him : i ≤ m) (h : Rot (m - i) m (m + j) f R) (s : Swr (m - i) m j f g) : Rot (m - (i - j)) m (m + j) g R := by
  obtain ⟨h1, h2, h3⟩ := h
  obtain ⟨s1, s2⟩ := s
  refine ⟨fun k hk => ?_, fun t ht => ?_, fun t ht => ?_⟩
  · by_cases hk2 : k < m - i ∨ m + j ≤ k
    · rw [h1 k hk2, s2 k (by omega) (by omega)]
    · have e := h2 (k - (m - i)) (by omega)
      have e' := (s1 (k - (m - i)) (by omega)).1
      rw [show m - i + (k - (m - i)) = k by omega] at e e'
      rw [e, e']
  · have e := h3 t (by omega)
    have e' := (s1 t (by omega)).2
    rw [e', ← e]
    congr 1
    omega
  · have e := h3 (j + t) (by omega)
    have e' := s2 (m - i + (j + t)) (by omega) (by omega)
    rw [show m - (i - j) + t = m - i + (j + t) by omega, e', ← e]
    congr 1
    omega
theorem rot_right {m i j : Nat} {f g R : Nat → Int} (hi : 0 < i) (hij : i < j) (him : i ≤ m) (h : Rot (m - i) m (m + j) f R) (s : Swr (m - i) (m + j - i) i f g) : Rot (m - i) m (m + (j - i)) g R := by
  obtain ⟨h1, h2, h3⟩ := h
  obtain ⟨s1, s2⟩ := s
  refine ⟨fun k hk => ?_, fun t ht => ?_, fun t ht => ?_⟩
  · by_cases hk2 : k < m - i ∨ m + j ≤ k
    · rw [h1 k hk2, s2 k (by omega) (by omega)]
    · have e := h3 (k - (m + j - i)) (by omega)
      have e' := (s1 (k - (m + j - i)) (by omega)).2
      rw [show m - i + (m + j - m) + (k - (m + j - i)) = k by omega] at e
      rw [show m + j - i + (k - (m + j - i)) = k by omega] at e'
      rw [e, e']
  · have e := h2 t (by omega)
    have e' := s2 (m + t) (by omega) (by omega)
    rw [e', ← e]
  · have e := h2 (j - i + t) (by omega)
    have e' := (s1 t (by omega)).1
    rw [e', show m + j - i + t = m + (j - i + t) by omega, ← e]
    congr 1
    omega
theorem rot_end {m i : Nat} {f g R : Nat → Int} (him : i ≤ m) (h : Rot (m - i) m (m + i) f R) (s : Swr (m - i) m i f g) : ∀ k, R k = g k := by
  obtain ⟨h1, h2, h3⟩ := h
  obtain ⟨s1, s2⟩ := s
  intro k
  by_cases hk : k < m - i ∨ m + i ≤ k
  · rw [h1 k hk, s2 k (by omega) (by omega)]
  · by_cases hk2 : k < m
    · have e := h2 (k - (m - i)) (by omega)
      have e' := (s1 (k - (m - i)) (by omega)).1
      rw [show m - i + (k - (m - i)) = k by omega] at e e'
      rw [e, e']
    · have e := h3 (k - m) (by omega)
      have e' := (s1 (k - m) (by omega)).2
      rw [show m - i + (m + i - m) + (k - m) = k by omega] at e
      rw [show m + (k - m) = k by omega] at e'
      rw [e, e']
theorem Seg.sub {p : Int → Int} {f : Nat → Int} {a b a' b' : Nat} (h : Seg p f a b) (h1 : a ≤ a') (h2 : b' ≤ b) : Seg p f a' b' := fun i j k1 k2 k3 => h i j (by omega) k2 (by omega)
/-- What the search and the rotation leave: both halves ready, the first below the second. -/
theorem sym_split {p : Int → Int} {f g : Nat → Int} {a m b s mid e : Nat} (h1 : Seg p f a m) (h2 : Seg p f m b) (hb : Bef f a m b) (qas : a ≤ s) (sm : s ≤ m) (me : m ≤ e) (eb : e ≤ b) (he : e + s = mid + m) (smid : s ≤ mid) (mide : mid ≤ e)
    (hA : s = a ∨ e = b ∨ lx p (f (s - 1)) (f e)) (hB : s = m ∨ e = m ∨ lx p (f (e - 1)) (f s)) (hr : Rot s m e f g) :
    Seg p g a s ∧ Seg p g s mid ∧ Seg p g mid e ∧ Seg p g e b ∧ Bef g a s mid ∧ Bef g mid e b ∧ ∀ i j, a ≤ i → i < mid → mid ≤ j → j < b → lx p (g i) (g j) := by
  obtain ⟨r1, r2, r3⟩ := hr
  have L1 : ∀ i, i < s → g i = f i := fun i hi => r1 i (.inl hi)
  have L2 : ∀ i, s ≤ i → i < mid → g i = f (m + (i - s)) := fun i k1 k2 => by
    have := r2 (i - s) (by omega)
    rwa [show s + (i - s) = i by omega] at this
  have L3 : ∀ i, mid ≤ i → i < e → g i = f (s + (i - mid)) := fun i k1 k2 => by
    have := r3 (i - mid) (by omega)
    rwa [show s + (e - m) + (i - mid) = i by omega] at this
  have L4 : ∀ i, e ≤ i → g i = f i := fun i hi => r1 i (.inr hi)
  have A : ∀ i j, a ≤ i → i < s → e ≤ j → j < b → lx p (f i) (f j) := fun i j k1 k2 k3 k4 => by
    rcases hA with h | h | h
    · omega
    · omega
    · have q1 : i = s - 1 ∨ lx p (f i) (f (s - 1)) := by
        by_cases q : i = s - 1
        · exact .inl q
        · exact .inr (h1 i (s - 1) k1 (by omega) (by omega))
      have q2 : j = e ∨ lx p (f e) (f j) := by
        by_cases q : j = e
        · exact .inl q
        · exact .inr (h2 e j me (by omega) k4)
      rcases q1 with rfl | q1 <;> rcases q2 with rfl | q2
      · exact h
      · exact lx_trans h q2
      · exact lx_trans q1 h
      · exact lx_trans (lx_trans q1 h) q2
  have B : ∀ i j, m ≤ i → i < e → s ≤ j → j < m → lx p (f i) (f j) := fun i j k1 k2 k3 k4 => by
    rcases hB with h | h | h
    · omega
    · omega
    · have q1 : i = e - 1 ∨ lx p (f i) (f (e - 1)) := by
        by_cases q : i = e - 1
        · exact .inl q
        · exact .inr (h2 i (e - 1) k1 (by omega) (by omega))
      have q2 : j = s ∨ lx p (f s) (f j) := by
        by_cases q : j = s
        · exact .inl q
        · exact .inr (h1 s j qas (by omega) k4)
      rcases q1 with rfl | q1 <;> rcases q2 with rfl | q2
      · exact h
      · exact lx_trans h q2
      · exact lx_trans q1 h
      · exact lx_trans (lx_trans q1 h) q2
  refine ⟨fun i j k1 k2 k3 => ?_, fun i j k1 k2 k3 => ?_, fun i j k1 k2 k3 => ?_, fun i j k1 k2 k3 => ?_, fun i j k1 k2 k3 k4 => ?_, fun i j k1 k2 k3 k4 => ?_, fun i j k1 k2 k3 k4 => ?_⟩
  · rw [L1 i (by omega), L1 j k3]
    exact h1 i j k1 k2 (by omega)
  · rw [L2 i k1 (by omega), L2 j (by omega) k3]
    exact h2 _ _ (by omega) (by omega) (by omega)
  · rw [L3 i k1 (by omega), L3 j (by omega) k3]
    exact h1 _ _ (by omega) (by omega) (by omega)
  · rw [L4 i k1, L4 j (by omega)]
    exact h2 i j (by omega) k2 k3
  · rw [L1 i k2, L2 j k3 k4]
    exact hb _ _ k1 (by omega) (by omega) (by omega)
  · rw [L3 i k1 k2, L4 j k3]
    exact hb _ _ (by omega) (by omega) (by omega) k4
  · by_cases c1 : i < s <;> by_cases c2 : j < e
    · rw [L1 i c1, L3 j k3 c2]
      exact h1 _ _ k1 (by omega) (by omega)
    · rw [L1 i c1, L4 j (by omega)]
      exact A i j k1 c1 (by omega) k4
    · rw [L2 i (by omega) k2, L3 j k3 c2]
      exact B _ _ (by omega) (by omega) (by omega) (by omega)
    · rw [L2 i (by omega) k2, L4 j (by omega)]
      exact h2 _ _ (by omega) (by omega) k4
/-- Both halves in order, the first below the second: the whole is. -/
theorem sym_join {p : Int → Int} {g g1 g2 : Nat → Int} {a mid b : Nat} (hc : ∀ i j, a ≤ i → i < mid → mid ≤ j → j < b → lx p (g i) (g j)) (am : a ≤ mid) (mb : mid ≤ b) (p1 : PI a mid g g1) (s1 : Seg p g1 a mid) (p2 : PI mid b g1 g2) (s2 : Seg p g2 mid b) : Seg p g2 a b ∧ PI a b g g2 := by
  refine ⟨fun i j k1 k2 k3 => ?_, (p1.wide (Nat.le_refl _) mb).trans (p2.wide am (Nat.le_refl _))⟩
  by_cases c1 : j < mid
  · rw [p2.1 i (by omega), p2.1 j (by omega)]
    exact s1 i j k1 k2 c1
  · by_cases c2 : mid ≤ i
    · exact s2 i j c2 k2 k3
    · rw [p2.1 i (by omega)]
      obtain ⟨i', i1, i2, e⟩ := p1.2.1 i k1 (by omega)
      obtain ⟨j', j1, j2, e'⟩ := p2.2.1 j (by omega) k3
      rw [e, e', p1.1 j' (by omega)]
      exact hc i' j' i1 i2 j1 j2
end Go.Proofs.Ytbdhelekmdpbiaa
