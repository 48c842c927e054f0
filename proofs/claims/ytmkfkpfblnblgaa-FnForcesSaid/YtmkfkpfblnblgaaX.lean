/- Tracks and forces: plain. A track's sections are one list of numbers: length, grade, length, grade .. -/
import Derived.Test.YtmkfkpfblnblgaaS
namespace Go.Proofs.Ytmkfkpfblnblgaa
set_option linter.unusedVariables false
set_option linter.unusedSimpArgs false

def secL (z : List Int) (k : Nat) : Int := nth z (k * 2)
def secG (z : List Int) (k : Nat) : Int := nth z (k * 2 + 1)
def lenTo (z : List Int) : Nat → Int
  | 0 => 0
  | k + 1 => lenTo z k + secL z k
/-- Is the section k as it has to be? -/
def secB (z : List Int) (k : Nat) : Bool := inB (secL z k) 1 3000000 && inB (secG z k) 0 900
def secsB (z : List Int) (n : Nat) : Bool := (List.range n).all (secB z)
theorem secsB_at {z : List Int} {n k : Nat} (h : secsB z n = true) (hk : k < n) : (1 ≤ secL z k ∧ secL z k ≤ 3000000) ∧ (0 ≤ secG z k ∧ secG z k ≤ 900) := by
  simp only [secsB, List.all_eq_true, List.mem_range] at h
  have := h k hk
  simp only [secB, Bool.and_eq_true] at this
  exact ⟨inB_true this.1, inB_true this.2⟩
theorem secsB_bad {z : List Int} {n k : Nat} (hk : k < n) (h : secB z k = false) : secsB z n = false := by
  rw [Bool.eq_false_iff]
  intro g
  simp only [secsB, List.all_eq_true, List.mem_range] at g
  rw [g k hk] at h
  cases h
theorem secsB_good {z : List Int} {n : Nat} (h : ∀ k, k < n → secB z k = true) : secsB z n = true := by
  simp only [secsB, List.all_eq_true, List.mem_range]
  exact h
theorem lenTo_bd {z : List Int} {n : Nat} (h : secsB z n = true) (k : Nat) (hk : k ≤ n) : (k : Int) ≤ lenTo z k ∧ lenTo z k ≤ 3000000 * k := by
  induction k with
  | zero => simp [lenTo]
  | succ k ih =>
    have := ih (by omega)
    have := secsB_at h (show k < n by omega)
    rw [lenTo]
    omega
theorem lenTo_mono {z : List Int} {n : Nat} (h : secsB z n = true) {j k : Nat} (hj : j ≤ k) (hk : k ≤ n) : lenTo z j ≤ lenTo z k := by
  induction k with
  | zero => obtain rfl : j = 0 := by omega
            exact Int.le_refl _
  | succ k ih =>
    by_cases e : j = k + 1
    · subst e
      exact Int.le_refl _
    · have := ih (by omega) (by omega)
      have := secsB_at h (show k < n by omega)
      rw [lenTo]
      omega
def trackB (z : List Int) (n : Nat) (f u : Int) : Bool := decide (1 ≤ n) && decide (n ≤ 12) && secsB z n && decide (lenTo z n ≤ 3000000) && inB f 0 (lenTo z n) && inB u f (lenTo z n)
theorem trackB_true {z : List Int} {n : Nat} {f u : Int} (h : trackB z n f u = true) : (1 ≤ n ∧ n ≤ 12) ∧ secsB z n = true ∧ (1 ≤ lenTo z n ∧ lenTo z n ≤ 3000000) ∧ (0 ≤ f ∧ f ≤ lenTo z n) ∧ (f ≤ u ∧ u ≤ lenTo z n) := by
  simp only [trackB, Bool.and_eq_true, decide_eq_true_eq] at h
  obtain ⟨⟨⟨⟨⟨h0, h1⟩, h2⟩, h3⟩, h4⟩, h5⟩ := h
  have := lenTo_bd h2 n (Nat.le_refl _)
  exact ⟨⟨h0, h1⟩, h2, ⟨by omega, h3⟩, inB_true h4, inB_true h5⟩
/-- The sum of length times grade, and what is left of a way, after k sections. -/
def hgtSt (z : List Int) (x : Int) : Nat → Int × Int
  | 0 => (0, x)
  | k + 1 => ((hgtSt z x k).1 + min (hgtSt z x k).2 (secL z k) * secG z k, (hgtSt z x k).2 - min (hgtSt z x k).2 (secL z k))
def hgtI (z : List Int) (n : Nat) (x : Int) : Int := (hgtSt z x n).1 / 1000
theorem hgtSt_bd {z : List Int} {n : Nat} (h : secsB z n = true) {x : Int} (x0 : 0 ≤ x) (k : Nat) (hk : k ≤ n) : 0 ≤ (hgtSt z x k).1 ∧ (hgtSt z x k).1 + 900 * (hgtSt z x k).2 ≤ 900 * x ∧ 0 ≤ (hgtSt z x k).2 ∧ (hgtSt z x k).2 ≤ x := by
  induction k with
  | zero => simp [hgtSt]; omega
  | succ k ih =>
    obtain ⟨i0, i1, i2, i3⟩ := ih (by omega)
    obtain ⟨⟨l0, l1⟩, g0, g1⟩ := secsB_at h (show k < n by omega)
    rw [hgtSt]
    simp only
    have m0 : 0 ≤ min (hgtSt z x k).2 (secL z k) := by omega
    have m1 : min (hgtSt z x k).2 (secL z k) ≤ (hgtSt z x k).2 := by omega
    generalize min (hgtSt z x k).2 (secL z k) = m at *
    have p0 : 0 ≤ m * secG z k := Int.mul_nonneg m0 g0
    have p1 : m * secG z k ≤ m * 900 := Int.mul_le_mul_of_nonneg_left g1 m0
    omega
theorem hgtSt_mono {z : List Int} {n : Nat} (h : secsB z n = true) {x x' : Int} (x0 : 0 ≤ x) (hx : x ≤ x') (k : Nat) (hk : k ≤ n) : (hgtSt z x k).1 ≤ (hgtSt z x' k).1 ∧ (hgtSt z x k).2 ≤ (hgtSt z x' k).2 := by
  induction k with
  | zero => simp [hgtSt]; omega
  | succ k ih =>
    obtain ⟨i0, i1⟩ := ih (by omega)
    obtain ⟨⟨l0, l1⟩, g0, g1⟩ := secsB_at h (show k < n by omega)
    rw [hgtSt, hgtSt]
    simp only
    have m1 : min (hgtSt z x k).2 (secL z k) * secG z k ≤ min (hgtSt z x' k).2 (secL z k) * secG z k := Int.mul_le_mul_of_nonneg_right (by omega) g0
    omega
theorem hgtI_bd {z : List Int} {n : Nat} (h : secsB z n = true) {x : Int} (x0 : 0 ≤ x) (x1 : x ≤ 3000000) : 0 ≤ hgtI z n x ∧ hgtI z n x ≤ 2700000 := by
  have := hgtSt_bd h x0 n (Nat.le_refl _)
  unfold hgtI
  omega
theorem hgtI_mono {z : List Int} {n : Nat} (h : secsB z n = true) {x x' : Int} (x0 : 0 ≤ x) (hx : x ≤ x') : hgtI z n x ≤ hgtI z n x' := by
  have := (hgtSt_mono h x0 hx n (Nat.le_refl _)).1
  unfold hgtI
  omega
/-- The section of a place, from the section k on. -/
def secF (z : List Int) : Nat → Nat → Int → Nat
  | 0, k, _ => k
  | m + 1, k, x => if x < secL z k then k else secF z m (k + 1) (x - secL z k)
theorem secF_le (z : List Int) (m k : Nat) (x : Int) : k ≤ secF z m k x ∧ secF z m k x ≤ k + m := by
  induction m generalizing k x with
  | zero => simp [secF]
  | succ m ih =>
    rw [secF]
    split
    · omega
    · have := ih (k + 1) (x - secL z k)
      omega
def secAt (z : List Int) (n : Nat) (x : Int) : Nat := secF z (n - 1) 0 x
theorem secAt_lt (z : List Int) {n : Nat} (x : Int) (h : 1 ≤ n) : secAt z n x < n := by
  have := secF_le z (n - 1) 0 x
  unfold secAt
  omega
def grdI (z : List Int) (n : Nat) (x : Int) : Int := secG z (secAt z n x)
theorem grdI_bd {z : List Int} {n : Nat} (h : secsB z n = true) (hn : 1 ≤ n) (x : Int) : 0 ≤ grdI z n x ∧ grdI z n x ≤ 900 := (secsB_at h (secAt_lt z x hn)).2
/-- Forces. -/
def carI (z : List Int) (n : Nat) (x kilos : Int) : Int := divR (kilos * 981 * grdI z n x) 100000
def ropI (z : List Int) (n : Nat) (x rope : Int) : Int := divR (rope * (hgtI z n (lenTo z n) - hgtI z n x) * 981) 100000000
def tenI (z : List Int) (n : Nat) (x kilos rope : Int) : Int := carI z n x kilos + ropI z n x rope
def netI (z : List Int) (n : Nat) (x kilos other rope : Int) : Int := tenI z n x kilos rope - tenI z n (lenTo z n - x) other rope
theorem car_arg {z : List Int} {n : Nat} (h : secsB z n = true) (hn : 1 ≤ n) {x kilos : Int} (k0 : 0 ≤ kilos) (k1 : kilos ≤ 100000) : (0 ≤ kilos * 981 ∧ kilos * 981 ≤ 98100000) ∧ 0 ≤ kilos * 981 * grdI z n x ∧ kilos * 981 * grdI z n x ≤ 88290000000 := by
  obtain ⟨g0, g1⟩ := grdI_bd h hn x
  have := mul_bd (show 0 ≤ kilos * 981 by omega) (show kilos * 981 ≤ 98100000 by omega) g0 g1
  omega
theorem rop_arg {z : List Int} {n : Nat} (h : secsB z n = true) {x rope : Int} (r0 : 0 ≤ rope) (r1 : rope ≤ 20000) (x0 : 0 ≤ x) (x1 : x ≤ lenTo z n) (hl : lenTo z n ≤ 3000000) : (0 ≤ hgtI z n (lenTo z n) - hgtI z n x ∧ hgtI z n (lenTo z n) - hgtI z n x ≤ 2700000) ∧ (0 ≤ rope * (hgtI z n (lenTo z n) - hgtI z n x) ∧ rope * (hgtI z n (lenTo z n) - hgtI z n x) ≤ 54000000000) ∧ 0 ≤ rope * (hgtI z n (lenTo z n) - hgtI z n x) * 981 ∧ rope * (hgtI z n (lenTo z n) - hgtI z n x) * 981 ≤ 52974000000000 := by
  have a := hgtI_mono h x0 x1
  have b := hgtI_bd h (show 0 ≤ lenTo z n by omega) hl
  have c := hgtI_bd h x0 (show x ≤ 3000000 by omega)
  have := mul_bd r0 r1 (show 0 ≤ hgtI z n (lenTo z n) - hgtI z n x by omega) (show hgtI z n (lenTo z n) - hgtI z n x ≤ 2700000 by omega)
  omega
theorem divR_le_of {a b A : Int} (h : a ≤ A * b) (hA : 0 ≤ A) (h0 : 0 ≤ a) (hb : 0 < b) : divR a b ≤ A := by
  have h1 := divR_mono h hb
  have h2 : divR (A * b) b = A := by
    rw [divR_nonneg (Int.mul_nonneg hA (by omega)) hb, Int.mul_emod_left, Int.mul_ediv_cancel _ (by omega), if_neg (by omega)]
    omega
  omega
theorem carI_bd {z : List Int} {n : Nat} (h : secsB z n = true) (hn : 1 ≤ n) {x kilos : Int} (k0 : 0 ≤ kilos) (k1 : kilos ≤ 100000) : 0 ≤ carI z n x kilos ∧ carI z n x kilos ≤ 882900 := by
  obtain ⟨_, a0, a1⟩ := car_arg h hn (x := x) k0 k1
  exact ⟨divR_pos a0 (by omega), divR_le_of (by omega) (by omega) a0 (by omega)⟩
theorem ropI_bd {z : List Int} {n : Nat} (h : secsB z n = true) {x rope : Int} (r0 : 0 ≤ rope) (r1 : rope ≤ 20000) (x0 : 0 ≤ x) (x1 : x ≤ lenTo z n) (hl : lenTo z n ≤ 3000000) : 0 ≤ ropI z n x rope ∧ ropI z n x rope ≤ 529740 := by
  obtain ⟨_, _, a0, a1⟩ := rop_arg h r0 r1 x0 x1 hl
  exact ⟨divR_pos a0 (by omega), divR_le_of (by omega) (by omega) a0 (by omega)⟩
theorem tenI_bd {z : List Int} {n : Nat} (h : secsB z n = true) (hn : 1 ≤ n) {x kilos rope : Int} (k0 : 0 ≤ kilos) (k1 : kilos ≤ 100000) (r0 : 0 ≤ rope) (r1 : rope ≤ 20000) (x0 : 0 ≤ x) (x1 : x ≤ lenTo z n) (hl : lenTo z n ≤ 3000000) : 0 ≤ tenI z n x kilos rope ∧ tenI z n x kilos rope ≤ 1500000 := by
  have := carI_bd h hn (x := x) k0 k1
  have := ropI_bd h r0 r1 x0 x1 hl
  unfold tenI
  omega
theorem netI_bd {z : List Int} {n : Nat} (h : secsB z n = true) (hn : 1 ≤ n) {x kilos other rope : Int} (k0 : 0 ≤ kilos) (k1 : kilos ≤ 100000) (o0 : 0 ≤ other) (o1 : other ≤ 100000) (r0 : 0 ≤ rope) (r1 : rope ≤ 20000) (x0 : 0 ≤ x) (x1 : x ≤ lenTo z n) (hl : lenTo z n ≤ 3000000) : -1500000 ≤ netI z n x kilos other rope ∧ netI z n x kilos other rope ≤ 1500000 := by
  have := tenI_bd h hn (x := x) k0 k1 r0 r1 x0 x1 hl
  have := tenI_bd h hn (x := lenTo z n - x) o0 o1 r0 r1 (by omega) (by omega) hl
  unfold netI
  omega
theorem carI_mono {z : List Int} {n : Nat} (h : secsB z n = true) (hn : 1 ≤ n) {x k k' : Int} (hk : k ≤ k') : carI z n x k ≤ carI z n x k' := by
  obtain ⟨g0, g1⟩ := grdI_bd h hn x
  exact divR_mono (Int.mul_le_mul_of_nonneg_right (by omega) g0) (by omega)
theorem netI_mono {z : List Int} {n : Nat} (h : secsB z n = true) (hn : 1 ≤ n) {x k k' other rope : Int} (hk : k ≤ k') : netI z n x k other rope ≤ netI z n x k' other rope := by
  have := carI_mono h hn (x := x) hk
  unfold netI tenI
  omega

end Go.Proofs.Ytmkfkpfblnblgaa
