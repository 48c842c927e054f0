/- What a motor needs and gives back over a list of forces. -/
import Derived.Test.YtgnanppgbkngnaaM3
import Derived.Test.YtgnanppgbkngnaaM2
namespace Go.Proofs.Ytgnanppgbkngnaa
open Go.ChangeShapes Go.WideShapes Go.ChangeAt Go.RowKit
set_option linter.unusedVariables false
set_option linter.unusedSimpArgs false

/-- The sums of the first k: what is needed, what is given back; and can the motor do them all? -/
def needTo (l v : Int) (xs : List Int) : Nat → Int
  | 0 => 0
  | k + 1 => needTo l v xs k + max 0 (powerI l (nth xs k) v)
def backTo (l v : Int) (xs : List Int) : Nat → Int
  | 0 => 0
  | k + 1 => backTo l v xs k + max 0 (-powerI l (nth xs k) v)
def allCan (p m l v : Int) (xs : List Int) : Bool := xs.all fun f => canB p m l f v
theorem allCan_bad {p m l v : Int} {xs : List Int} {k : Nat} (hk : k < xs.length) (h : canB p m l (nth xs k) v = false) : allCan p m l v xs = false := by
  rw [Bool.eq_false_iff]
  intro g
  simp only [allCan, List.all_eq_true] at g
  rw [g _ (nth_mem hk)] at h
  cases h
theorem allCan_good {p m l v : Int} {xs : List Int} (h : ∀ k, k < xs.length → canB p m l (nth xs k) v = true) : allCan p m l v xs = true := by
  simp only [allCan, List.all_eq_true]
  intro x hx
  obtain ⟨j, hj, rfl⟩ := List.mem_iff_getElem.1 hx
  have := h j hj
  simpa only [nth, List.getD_eq_getElem?_getD, List.getElem?_eq_getElem hj, Option.getD_some] using this
theorem powerI_bd {p m l f v : Int} (p1 : p ≤ 10000000) (l0 : 0 ≤ l) (l1 : l ≤ 500) (hf : inB f (-1000000) 1000000 = true) (hv : inB v 0 20000 = true) (hc : canB p m l f v = true) : -20000000 ≤ powerI l f v ∧ powerI l f v ≤ 10000000 := by
  obtain ⟨_, q0, q1⟩ := workI_bd hf hv
  simp only [canB, Bool.and_eq_true, decide_eq_true_eq] at hc
  refine ⟨?_, by omega⟩
  unfold powerI
  by_cases h : 0 < workI f v
  · rw [if_pos h]
    have := Int.ediv_nonneg (show 0 ≤ 1000 * workI f v + (1000 - l) - 1 by omega) (show 0 ≤ 1000 - l by omega)
    omega
  · rw [if_neg h]
    obtain ⟨k0, k1⟩ := mul_bd (show 0 ≤ -workI f v by omega) (show -workI f v ≤ 20000000 by omega) (show 0 ≤ 1000 - l by omega) (show 1000 - l ≤ 1000 by omega)
    omega
theorem sums_bd {p m l v : Int} {xs : List Int} (p1 : p ≤ 10000000) (l0 : 0 ≤ l) (l1 : l ≤ 500) (hv : inB v 0 20000 = true) (hx : ∀ k, k < xs.length → -1000000 ≤ nth xs k ∧ nth xs k ≤ 1000000) (k : Nat) (hk : k ≤ xs.length) (hc : ∀ j, j < k → canB p m l (nth xs j) v = true) : (0 ≤ needTo l v xs k ∧ needTo l v xs k ≤ 10000000 * k) ∧ 0 ≤ backTo l v xs k ∧ backTo l v xs k ≤ 20000000 * k := by
  induction k with
  | zero => simp [needTo, backTo]
  | succ k ih =>
    have := ih (by omega) (fun j hj => hc j (by omega))
    have hb := hx k (by omega)
    have := powerI_bd p1 l0 l1 (inB_of hb.1 hb.2) hv (hc k (by omega))
    rw [needTo, backTo]
    omega
def fEnergy (p m l v s : Int) (xs : List Int) : Int × Int × Int := if motorOk p m l then (if foB xs && inB v 0 20000 && inB s 0 100000 then (if allCan p m l v xs then (needTo l v xs xs.length * s, backTo l v xs xs.length * s, 0) else (0, 0, 6)) else (0, 0, 2)) else (0, 0, 1)
theorem within_v {n lo hi : Int} {b : Bool} (h : inB n lo hi = b) (w : World) : Calls Try.prog 48 #[.int .i64 n, .int .i64 lo, .int .i64 hi] w fun e w' => e = .returned (.bool b) ∧ w = w' := by
  subst h
  exact within_c n lo hi w
theorem l10Speed_v {n : Int} {b : Bool} (h : inB n 0 20000 = b) (w : World) : Calls Try.prog 67 #[.int .i64 n] w fun e w' => e = .returned (.bool b) ∧ w = w' := by
  subst h
  exact l10Speed_c n w
theorem areForces_v {xs : List Int} {b : Bool} (h : foB xs = b) (A : Option Addr) (c : Nat) (hn : xs.length ≤ 1048576) (w : World) (hr : RowI w A xs) : Calls Try.prog 60 #[.slice A xs.length c] w fun e w' => e = .returned (.bool b) ∧ w = w' := by
  subst h
  exact areForces_c A c xs hn w hr
theorem l10Forces_v {xs : List Int} {b : Bool} (h : foB xs = b) (A : Option Addr) (c : Nat) (hn : xs.length ≤ 1048576) (w : World) (hr : RowI w A xs) : Calls Try.prog 58 #[.slice A xs.length c] w fun e w' => e = .returned (.bool b) ∧ w = w' := by
  subst h
  exact l10Forces_c A c xs hn w hr
end Go.Proofs.Ytgnanppgbkngnaa
