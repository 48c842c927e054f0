/- Rides in steps: plain. -/
import Derived.Test.YtmkfkpfblnblgaaX
import Derived.Test.YtmkfkpfblnblgaaQ
namespace Go.Proofs.Ytmkfkpfblnblgaa
set_option linter.unusedVariables false
set_option linter.unusedSimpArgs false

/-- The code of a ride in steps. -/
def rideCode (ok fine : Bool) (len step : Int) : Int := if ok then (if fine then (if 20000 < len / step then 5 else 0) else 2) else 1
def codeR (z : List Int) (n : Nat) (f u step : Int) (m : Bool) : Int := rideCode (trackB z n f u) (m && inB step 1 3000000) (lenTo z n) step
theorem codeR_zero {z : List Int} {n : Nat} {f u step : Int} {m : Bool} (h : codeR z n f u step m = 0) : trackB z n f u = true ∧ inB step 1 3000000 = true ∧ m = true := by
  unfold codeR rideCode at h
  cases h1 : trackB z n f u <;> cases h2 : inB step 1 3000000 <;> cases m <;> simp [h1, h2] at h
  exact ⟨rfl, rfl, rfl⟩
theorem codeR_false {z : List Int} {n : Nat} {f u step : Int} : codeR z n f u step false ≠ 0 := fun h => by
  have := (codeR_zero h).2.2
  cases this
/-- The work from a place on. -/
def workF (z : List Int) (n : Nat) (k o r step : Int) : Nat → Int → Int → Int
  | 0, _, s => s
  | q + 1, x, s => if x < lenTo z n then workF z n k o r step q (x + step) (s + max 0 (netI z n x k o r) * min step (lenTo z n - x) / 1000) else s
section
variable {z : List Int} {n : Nat} {k o r step : Int} {q : Nat} {x s : Int}
theorem workF_on (h : x < lenTo z n) : workF z n k o r step (q + 1) x s = workF z n k o r step q (x + step) (s + max 0 (netI z n x k o r) * min step (lenTo z n - x) / 1000) := by rw [workF, if_pos h]
theorem workF_end (h : ¬ x < lenTo z n) : workF z n k o r step q x s = s := by
  cases q with
  | zero => rfl
  | succ q => rw [workF, if_neg h]
end
def workI (z : List Int) (n : Nat) (k o r step : Int) : Int := workF z n k o r step (lenTo z n).toNat 0 0
theorem work_term {a b : Int} (a0 : 0 ≤ a) (a1 : a ≤ 1500000) (b0 : 0 ≤ b) (b1 : b ≤ 3000000) : (0 ≤ a * b ∧ a * b ≤ 4500000000000) ∧ 0 ≤ a * b / 1000 ∧ a * b / 1000 ≤ 4500000000 := by
  have := mul_bd a0 a1 b0 b1
  omega
/-- The place with the greatest value, and the value, from a place on. -/
def bestF (val : Int → Int) (len step : Int) : Nat → Int → Int × Int → Int × Int
  | 0, _, s => s
  | q + 1, x, s => if x ≤ len then bestF val len step q (x + step) (if s.2 < val x then (x, val x) else s) else s
section
variable {val : Int → Int} {len step : Int} {q : Nat} {x : Int} {s : Int × Int}
theorem bestF_hit (h : x ≤ len) (g : s.2 < val x) : bestF val len step (q + 1) x s = bestF val len step q (x + step) (x, val x) := by rw [bestF, if_pos h, if_pos g]
theorem bestF_on (h : x ≤ len) (g : ¬ s.2 < val x) : bestF val len step (q + 1) x s = bestF val len step q (x + step) s := by rw [bestF, if_pos h, if_neg g]
theorem bestF_end (h : ¬ x ≤ len) : bestF val len step q x s = s := by
  cases q with
  | zero => rfl
  | succ q => rw [bestF, if_neg h]
end
def bestI (val : Int → Int) (len step : Int) : Int × Int := bestF val len step (len.toNat + 1) 0 (0, val 0)
theorem bestI_spec {val : Int → Int} {len step : Int} (h0 : 0 ≤ val 0) (hl : 0 ≤ len) : bestF val len step (len.toNat + 1) 0 (0, -1) = bestI val len step := by
  unfold bestI
  rw [bestF_hit hl (show (-1 : Int) < val 0 by omega), bestF_on hl (show ¬ val 0 < val 0 by omega)]
/-- The first place with another sign, from a place on. -/
def zeroF (z : List Int) (n : Nat) (k o r step : Int) : Nat → Int → Int × Int
  | 0, _ => (0, 3)
  | q + 1, x => if x ≤ lenTo z n then (if decide (0 < netI z n x k o r) != decide (0 < netI z n 0 k o r) then (x, 0) else zeroF z n k o r step q (x + step)) else (0, 3)
section
variable {z : List Int} {n : Nat} {k o r step : Int} {q : Nat} {x : Int}
theorem zeroF_hit (h : x ≤ lenTo z n) (g : (decide (0 < netI z n x k o r) != decide (0 < netI z n 0 k o r)) = true) : zeroF z n k o r step (q + 1) x = (x, 0) := by rw [zeroF, if_pos h, if_pos g]
theorem zeroF_on (h : x ≤ lenTo z n) (g : (decide (0 < netI z n x k o r) != decide (0 < netI z n 0 k o r)) = false) : zeroF z n k o r step (q + 1) x = zeroF z n k o r step q (x + step) := by rw [zeroF, if_pos h, g]; rfl
theorem zeroF_end (h : ¬ x ≤ lenTo z n) : zeroF z n k o r step q x = (0, 3) := by
  cases q with
  | zero => rfl
  | succ q => rw [zeroF, if_neg h]
end
def zeroI (z : List Int) (n : Nat) (k o r step : Int) : Int × Int := zeroF z n k o r step (lenTo z n).toNat step
/-- The least number from k on, q of them, with p; or what comes behind. -/
def lstF (p : Int → Bool) : Nat → Int → Int
  | 0, k => k
  | q + 1, k => if p k then k else lstF p q (k + 1)
theorem lstF_at (p : Int → Bool) (q : Nat) (k : Int) : LeastAt p k (k + q - 1) (lstF p q k) := by
  induction q generalizing k with
  | zero => exact ⟨by simp [lstF], by simp [lstF], fun v h1 h2 => by simp [lstF] at h2; omega, fun h => by simp [lstF] at h; omega⟩
  | succ q ih =>
    rw [lstF]
    by_cases h : p k = true
    · rw [if_pos h]
      exact ⟨by omega, by omega, fun v h1 h2 => by omega, fun _ => h⟩
    · rw [if_neg h]
      obtain ⟨i1, i2, i3, i4⟩ := ih (k + 1)
      refine ⟨by omega, by omega, fun v h1 h2 => ?_, fun h3 => i4 (by omega)⟩
      by_cases e : v = k
      · subst e
        exact Bool.eq_false_iff.2 h
      · exact i3 v (by omega) h2
def balB (z : List Int) (n : Nat) (x o r k : Int) : Bool := decide (0 ≤ netI z n x k o r)
def balI (z : List Int) (n : Nat) (x o r : Int) : Int := lstF (balB z n x o r) 100001 0
def fBal (z : List Int) (n : Nat) (x o r : Int) : Int × Int := if 100000 < balI z n x o r then (0, 3) else (balI z n x o r, 0)
theorem balI_at (z : List Int) (n : Nat) (x o r : Int) : LeastAt (balB z n x o r) 0 100000 (balI z n x o r) := lstF_at (balB z n x o r) 100001 0
theorem balB_mono {z : List Int} {n : Nat} (h : secsB z n = true) (hn : 1 ≤ n) {x o r k k' : Int} (hk : k ≤ k') (g : balB z n x o r k = true) : balB z n x o r k' = true := by
  have := netI_mono h hn (x := x) (other := o) (rope := r) hk
  simp only [balB, decide_eq_true_eq] at g ⊢
  omega

end Go.Proofs.Ytmkfkpfblnblgaa
