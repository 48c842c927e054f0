/- Lists of hours and of limits: three numbers each, in one flat list. The laws' copies and comparisons; validity. -/
import Derived.Test.YtbdhelekmdpbiaaW
import Derived.Test.YtbdhelekmdpbiaaS
import Derived.Test.YtbdhelekmdpbiaaSS
namespace Go.Proofs.Ytbdhelekmdpbiaa
open Go.ChangeShapes Go.WideShapes Go.ChangeAt Go.RowKit
set_option linter.unusedVariables false
set_option linter.unusedSimpArgs false

theorem nth_mixL {z : List Int} {k i : Nat} (hk : k ≤ z.length) (hi : i < z.length) : nth (mixL z k) i = if i < k then nth z i else 0 := by
  have h := mixL_get z k i hk
  unfold nth
  rw [List.getD_eq_getElem?_getD, h]
  by_cases g : i < k
  · rw [if_pos g, if_pos g, List.getD_eq_getElem?_getD]
  · rw [if_neg g, if_neg g, if_pos hi]
    rfl
theorem mixL_length {z : List Int} {k : Nat} (hk : k ≤ z.length) : (mixL z k).length = z.length := by
  unfold mixL
  rw [List.length_append, List.length_take, List.length_replicate]
  omega
/-- A row in a block of its own, which may be written: the first k numbers of z, then zeros. -/
def MixAt (b : Nat) (z : List Int) (k : Nat) (w : World) : Prop := b < w.heap.size ∧ ∀ i, i < z.length → w.cell? ⟨b, i, none⟩ = some (.int .i64 (nth (mixL z k) i)) ∧ w.frozen? ⟨b, i, none⟩ = false
theorem MixAt.below {b : Nat} {z : List Int} {k : Nat} {w w' : World} (h : MixAt b z k w) (hb : Below w.heap.size w w') : MixAt b z k w' :=
  ⟨Nat.lt_of_lt_of_le h.1 hb.size, fun i hi => ⟨(hb.cell (p := ⟨b, i, none⟩) h.1).trans (h.2 i hi).1, (hb.frozen (p := ⟨b, i, none⟩) h.1).trans (h.2 i hi).2⟩⟩
theorem MixAt.new (w : World) (t : TypeId) (z : List Int) : MixAt w.heap.size z 0 (w.alloc (.cells (mixA z 0) t)) :=
  ⟨by simp, fun i hi => ⟨by
    have h : (mixA z 0)[i]? = some (.int .i64 (nth (mixL z 0) i)) := ints_at (by rw [mixL_length (by omega)]; exact hi)
    simp [h], by simp⟩⟩
theorem MixAt.row {b : Nat} {z : List Int} {w : World} (h : MixAt b z z.length w) : RowI w (some ⟨b, 0, none⟩) z := fun _ =>
  ⟨b, 0, rfl, h.1, fun i hi => by
    have := (h.2 i hi).1
    rw [nth_mixL (Nat.le_refl _) hi, if_pos hi] at this
    simpa using this⟩
theorem MixAt.set1 {b : Nat} {z : List Int} {k : Nat} {w : World} (h : MixAt b z k w) (hk : k < z.length) : MixAt b z (k + 1) (w.setCell ⟨b, k, none⟩ (.int .i64 (nth z k))) := by
  obtain ⟨h1, h2⟩ := h
  refine ⟨by simpa using h1, fun i hi => ?_⟩
  obtain ⟨c1, c2⟩ := h2 i hi
  obtain ⟨d1, d2⟩ := h2 k hk
  refine ⟨?_, by simpa using c2⟩
  by_cases e : i = k
  · subst e
    rw [nth_mixL (by omega) hi, if_pos (by omega)]
    simp [d1, go_sem]
  · rw [nth_mixL (by omega) hi]
    rw [nth_mixL (by omega) hi] at c1
    have hne : (⟨b, k, none⟩ : Addr) ≠ ⟨b, i, none⟩ := by
      intro q
      injection q with _ q2 _
      exact e q2.symm
    rw [World.cell?_setCell_other _ _ _ _ (by first | exact hne | exact hne.symm), c1]
    by_cases g : i < k
    · rw [if_pos g, if_pos (by omega)]
    · rw [if_neg g, if_neg (by omega)]
def tA (z : List Int) (k : Nat) : Int := nth z (k * 3)
def tB (z : List Int) (k : Nat) : Int := nth z (k * 3 + 1)
def tC (z : List Int) (k : Nat) : Int := nth z (k * 3 + 2)
theorem RowI.tri {w : World} {A : Option Addr} {z : List Int} {n : Nat} (h : RowI w A z) (hz : z.length = n * 3) {k : Nat} (hk : k < n) : ∃ b off, A = some ⟨b, off, none⟩ ∧ b < w.heap.size ∧ w.cell? ⟨b, off + k * 3, none⟩ = some (.int .i64 (tA z k)) ∧ w.cell? ⟨b, off + k * 3 + 1, none⟩ = some (.int .i64 (tB z k)) ∧ w.cell? ⟨b, off + k * 3 + 2, none⟩ = some (.int .i64 (tC z k)) := by
  obtain ⟨b, off, rfl, hb, hc⟩ := h (by omega)
  exact ⟨b, off, rfl, hb, hc (k * 3) (by omega), by rw [Nat.add_assoc]; exact hc (k * 3 + 1) (by omega), by rw [Nat.add_assoc]; exact hc (k * 3 + 2) (by omega)⟩
/-- Does p hold at one of the first n places? -/
def anyN (p : Nat → Bool) (n : Nat) : Bool := (List.range n).any p
theorem anyN_hit {p : Nat → Bool} {n k : Nat} (hk : k < n) (h : p k = true) : anyN p n = true := List.any_eq_true.2 ⟨k, List.mem_range.2 hk, h⟩
theorem anyN_no {p : Nat → Bool} {n : Nat} (h : ∀ j, j < n → p j = false) : anyN p n = false := by
  unfold anyN
  rw [List.any_eq_false]
  intro x hx
  simp [h x (List.mem_range.1 hx)]
theorem anyN_all {p : Nat → Bool} {n : Nat} (h : anyN p n = false) {k : Nat} (hk : k < n) : p k = false := by
  rcases hp : p k with _ | _
  · rfl
  · rw [anyN_hit hk hp] at h
    simp at h
/-- What slices.IndexFunc hands back: a number that is negative just where nothing was found. -/
def IdxB (b : Bool) (w : World) (e : Ending) (w' : World) : Prop := ∃ r : Int, e = .returned (.int .i64 r) ∧ decide (0 ≤ r) = b ∧ Below w.heap.size w w'

/-- Is a limit (kind, above, speed) as it has to be? -/
def limOk (a b c : Int) : Bool := inB a 1 4 && inB b 0 1000 && inB c 0 20000
theorem limOk_true {a b c : Int} (h : limOk a b c = true) : (1 ≤ a ∧ a ≤ 4) ∧ (0 ≤ b ∧ b ≤ 1000) ∧ (0 ≤ c ∧ c ≤ 20000) := by
  simp only [limOk, Bool.and_eq_true] at h
  obtain ⟨⟨h0, h1⟩, h2⟩ := h
  exact ⟨inB_true h0, inB_true h1, inB_true h2⟩
def badHour (z : List Int) (k : Nat) : Bool := !hourOk (tA z k) (tB z k) (tC z k)
def badLimit (z : List Int) (k : Nat) : Bool := !limOk (tA z k) (tB z k) (tC z k)
def hoursB (z : List Int) (n : Nat) : Bool := decide ((n : Int) ≤ 48) && !anyN (badHour z) n
def limsB (z : List Int) (n : Nat) : Bool := decide ((n : Int) ≤ 8) && !anyN (badLimit z) n
theorem hoursB_true {z : List Int} {n : Nat} (h : hoursB z n = true) : n ≤ 48 ∧ ∀ k, k < n → hourOk (tA z k) (tB z k) (tC z k) = true := by
  simp only [hoursB, Bool.and_eq_true, decide_eq_true_eq, Bool.not_eq_true'] at h
  refine ⟨by omega, fun k hk => ?_⟩
  simpa [badHour] using anyN_all h.2 hk
theorem limsB_true {z : List Int} {n : Nat} (h : limsB z n = true) : n ≤ 8 ∧ ∀ k, k < n → limOk (tA z k) (tB z k) (tC z k) = true := by
  simp only [limsB, Bool.and_eq_true, decide_eq_true_eq, Bool.not_eq_true'] at h
  refine ⟨by omega, fun k hk => ?_⟩
  simpa [badLimit] using anyN_all h.2 hk
end Go.Proofs.Ytbdhelekmdpbiaa
