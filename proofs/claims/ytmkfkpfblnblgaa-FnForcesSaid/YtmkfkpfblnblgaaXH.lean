/- What the law on forces asks, in one place: plain. -/
import Derived.Test.YtmkfkpfblnblgaaXP
namespace Go.Proofs.Ytmkfkpfblnblgaa
set_option linter.unusedVariables false
set_option linter.unusedSimpArgs false

/-- The best place among multiples of a step. -/
theorem bestF_is {val : Int → Int} {len step : Int} (hs : 1 ≤ step) (q : Nat) : ∀ (i : Nat) (s : Int × Int), len - step * i < q → (s.2 = val s.1 ∧ 0 ≤ s.1 ∧ s.1 ≤ len ∧ s.1 % step = 0) → (∀ j : Nat, j < i → step * j ≤ len → val (step * j) ≤ s.2) → ((bestF val len step q (step * i) s).2 = val (bestF val len step q (step * i) s).1 ∧ 0 ≤ (bestF val len step q (step * i) s).1 ∧ (bestF val len step q (step * i) s).1 ≤ len ∧ (bestF val len step q (step * i) s).1 % step = 0) ∧ ∀ j : Nat, step * j ≤ len → val (step * j) ≤ (bestF val len step q (step * i) s).2 := by
  induction q with
  | zero =>
    intro i s h h1 h2
    refine ⟨h1, fun j hj => h2 j ?_ hj⟩
    rcases Nat.lt_or_ge j i with g | g
    · exact g
    · have := Int.mul_le_mul_of_nonneg_left (show (i : Int) ≤ j by omega) (show 0 ≤ step by omega)
      omega
  | succ q ih =>
    intro i s h h1 h2
    have e : step * ((i + 1 : Nat) : Int) = step * i + step := by rw [Int.natCast_add, Int.mul_add]; simp
    by_cases hx : step * i ≤ len
    · by_cases g : s.2 < val (step * i)
      · rw [bestF_hit hx g, ← e]
        refine ih (i + 1) _ (by rw [e]; omega) ⟨rfl, Int.mul_nonneg (by omega) (by omega), hx, Int.mul_emod_right _ _⟩ (fun j hj hl => ?_)
        rcases Nat.lt_or_ge j i with h3 | h3
        · have := h2 j h3 hl
          show val (step * j) ≤ val (step * i)
          omega
        · obtain rfl : j = i := by omega
          exact Int.le_refl _
      · rw [bestF_on hx g, ← e]
        refine ih (i + 1) _ (by rw [e]; omega) h1 (fun j hj hl => ?_)
        rcases Nat.lt_or_ge j i with h3 | h3
        · exact h2 j h3 hl
        · obtain rfl : j = i := by omega
          omega
    · rw [bestF_end hx]
      refine ⟨h1, fun j hj => h2 j ?_ hj⟩
      rcases Nat.lt_or_ge j i with g | g
      · exact g
      · have := Int.mul_le_mul_of_nonneg_left (show (i : Int) ≤ j by omega) (show 0 ≤ step by omega)
        omega
theorem bestI_is {val : Int → Int} {len step : Int} (hs : 1 ≤ step) (hl : 0 ≤ len) : ((bestI val len step).2 = val (bestI val len step).1 ∧ 0 ≤ (bestI val len step).1 ∧ (bestI val len step).1 ≤ len ∧ (bestI val len step).1 % step = 0) ∧ ∀ j : Nat, step * j ≤ len → val (step * j) ≤ (bestI val len step).2 := by
  have := bestF_is (val := val) (len := len) hs (len.toNat + 1) 0 (0, val 0) (by simp; omega) ⟨rfl, Int.le_refl _, hl, by simp⟩ (fun j hj => by omega)
  simpa [bestI] using this
theorem workF_pos {z : List Int} {n : Nat} {k o r step : Int} (hs : 1 ≤ step) (q : Nat) : ∀ (x s : Int), 0 ≤ s → 0 ≤ workF z n k o r step q x s := by
  induction q with
  | zero => intro x s h; exact h
  | succ q ih =>
    intro x s h
    by_cases hx : x < lenTo z n
    · rw [workF_on hx]
      refine ih _ _ ?_
      have : 0 ≤ max 0 (netI z n x k o r) * min step (lenTo z n - x) := Int.mul_nonneg (by omega) (by omega)
      have := Int.ediv_nonneg this (show (0 : Int) ≤ 1000 by omega)
      omega
    · rw [workF_end hx]
      exact h
/-- Has the net pull another sign at the i-th step? -/
def chgB (z : List Int) (n : Nat) (k o r step : Int) (i : Nat) : Bool := decide (0 < netI z n (step * i) k o r) != decide (0 < netI z n 0 k o r)
/-- The first step with another sign among those below i, as the law keeps it; -1 if there is none. -/
def chgTo (z : List Int) (n : Nat) (k o r step : Int) : Nat → Int
  | 0 => -1
  | i + 1 => if chgTo z n k o r step i < 0 ∧ 0 < i ∧ chgB z n k o r step i = true then step * i else chgTo z n k o r step i
theorem chgTo_none {z : List Int} {n : Nat} {k o r step : Int} : ∀ i : Nat, (∀ j, 0 < j → j < i → chgB z n k o r step j = false) → chgTo z n k o r step i = -1
  | 0, _ => rfl
  | i + 1, h => by
    rw [chgTo, if_neg]
    · exact chgTo_none i (fun j h0 h1 => h j h0 (by omega))
    · rintro ⟨_, h0, h1⟩
      rw [h i h0 (by omega)] at h1
      cases h1
theorem chgTo_first {z : List Int} {n : Nat} {k o r step : Int} (hs : 1 ≤ step) {i0 : Nat} (h0 : 0 < i0) (h1 : chgB z n k o r step i0 = true) (h2 : ∀ j, 0 < j → j < i0 → chgB z n k o r step j = false) : ∀ i : Nat, i0 < i → chgTo z n k o r step i = step * i0
  | 0, h => by omega
  | i + 1, h => by
    have hp : 0 ≤ step * (i0 : Int) := Int.mul_nonneg (by omega) (by omega)
    rcases Nat.lt_or_ge i0 i with g | g
    · rw [chgTo, chgTo_first hs h0 h1 h2 i g, if_neg (by omega)]
    · obtain rfl : i0 = i := by omega
      rw [chgTo, chgTo_none i0 h2, if_pos ⟨by omega, h0, h1⟩]
theorem zeroF_is {z : List Int} {n : Nat} {k o r step : Int} (hs : 1 ≤ step) (q : Nat) : ∀ (i : Nat), 0 < i → lenTo z n - step * i < q → (∀ j, 0 < j → j < i → chgB z n k o r step j = false) → (∃ i0 : Nat, 0 < i0 ∧ step * i0 ≤ lenTo z n ∧ chgB z n k o r step i0 = true ∧ (∀ j, 0 < j → j < i0 → chgB z n k o r step j = false) ∧ zeroF z n k o r step q (step * i) = (step * i0, 0)) ∨ ((∀ j : Nat, 0 < j → step * j ≤ lenTo z n → chgB z n k o r step j = false) ∧ zeroF z n k o r step q (step * i) = (0, 3)) := by
  induction q with
  | zero =>
    intro i h0 h h2
    refine .inr ⟨fun j hj hl => h2 j hj ?_, rfl⟩
    rcases Nat.lt_or_ge j i with g | g
    · exact g
    · have := Int.mul_le_mul_of_nonneg_left (show (i : Int) ≤ j by omega) (show 0 ≤ step by omega)
      omega
  | succ q ih =>
    intro i h0 h h2
    have e : step * ((i + 1 : Nat) : Int) = step * i + step := by rw [Int.natCast_add, Int.mul_add]; simp
    by_cases hx : step * i ≤ lenTo z n
    · cases g : chgB z n k o r step i
      · rw [zeroF_on hx g, ← e]
        refine ih (i + 1) (by omega) (by rw [e]; omega) (fun j hj hl => ?_)
        rcases Nat.lt_or_ge j i with h3 | h3
        · exact h2 j hj h3
        · obtain rfl : j = i := by omega
          exact g
      · exact .inl ⟨i, h0, hx, g, h2, zeroF_hit hx g⟩
    · rw [zeroF_end hx]
      refine .inr ⟨fun j hj hl => h2 j hj ?_, rfl⟩
      rcases Nat.lt_or_ge j i with g | g
      · exact g
      · have := Int.mul_le_mul_of_nonneg_left (show (i : Int) ≤ j by omega) (show 0 ≤ step by omega)
        omega
/-- What the law's own search finds is what ZeroNet finds. -/
theorem zeroI_is {z : List Int} {n : Nat} {k o r step : Int} (hs : 1 ≤ step) (hl : 0 ≤ lenTo z n) {I : Nat} (hI : lenTo z n < step * I) (hI' : ∀ j : Nat, j < I → step * j ≤ lenTo z n) : (0 ≤ chgTo z n k o r step I ∧ zeroI z n k o r step = (chgTo z n k o r step I, 0)) ∨ (chgTo z n k o r step I = -1 ∧ zeroI z n k o r step = (0, 3)) := by
  have h := zeroF_is (z := z) (n := n) (k := k) (o := o) (r := r) hs (lenTo z n).toNat 1 (by omega) (by rw [Int.natCast_one, Int.mul_one]; omega) (fun j h0 h1 => by omega)
  rw [Int.natCast_one, Int.mul_one] at h
  have hlt : ∀ j : Nat, step * j ≤ lenTo z n → j < I := fun j hj => by
    rcases Nat.lt_or_ge j I with g | g
    · exact g
    · have := Int.mul_le_mul_of_nonneg_left (show (I : Int) ≤ j by omega) (show 0 ≤ step by omega)
      omega
  rcases h with ⟨i0, h0, h1, h2, h3, h4⟩ | ⟨h1, h2⟩
  · have e := chgTo_first hs h0 h2 h3 I (hlt i0 h1)
    have hp : 0 ≤ step * (i0 : Int) := Int.mul_nonneg (by omega) (by omega)
    exact .inl ⟨by omega, by rw [e]; exact h4⟩
  · exact .inr ⟨chgTo_none I (fun j h0 hj => h1 j h0 (hI' j hj)), h2⟩
theorem carI_one {z : List Int} {n : Nat} (hn : 1 ≤ n) {x kilos : Int} (k0 : 3000 ≤ kilos) (hg : ∀ k, k < n → 50 ≤ secG z k) : 1 ≤ carI z n x kilos := by
  have g0 : 50 ≤ grdI z n x := hg _ (secAt_lt z x hn)
  have h1 : 3000 * 981 * 50 ≤ kilos * 981 * grdI z n x := Int.mul_le_mul (by omega) g0 (by omega) (by omega)
  have h2 := divR_mono h1 (show (0 : Int) < 100000 by omega)
  have h3 : divR (3000 * 981 * 50) 100000 = 1472 := by decide
  unfold carI
  omega
theorem ropI_end (z : List Int) (n : Nat) (rope : Int) : ropI z n (lenTo z n) rope = 0 := by
  unfold ropI
  rw [Int.sub_self, Int.mul_zero, Int.zero_mul]
  decide
theorem netI_back (z : List Int) (n : Nat) (x kilos other rope : Int) : netI z n (lenTo z n - x) other kilos rope = -netI z n x kilos other rope := by
  unfold netI
  rw [show lenTo z n - (lenTo z n - x) = x by omega]
  omega
theorem fBal_is (z : List Int) (n : Nat) (x o r : Int) : fBal z n x o r = (0, 3) ∨ ∃ k, fBal z n x o r = (k, 0) ∧ 0 ≤ k ∧ k ≤ 100000 ∧ 0 ≤ netI z n x k o r ∧ (k = 0 ∨ netI z n x (k - 1) o r < 0) := by
  obtain ⟨h1, h2, h3, h4⟩ := balI_at z n x o r
  unfold fBal
  by_cases h : 100000 < balI z n x o r
  · rw [if_pos h]
    exact .inl rfl
  · rw [if_neg h]
    refine .inr ⟨_, rfl, h1, by omega, ?_, ?_⟩
    · have := h4 (by omega)
      unfold balB at this
      exact of_decide_eq_true this
    · rcases Int.lt_or_le 0 (balI z n x o r) with g | g
      · have := h3 (balI z n x o r - 1) (by omega) (by omega)
        unfold balB at this
        have := of_decide_eq_false this
        exact .inr (by omega)
      · exact .inl (by omega)
end Go.Proofs.Ytmkfkpfblnblgaa
