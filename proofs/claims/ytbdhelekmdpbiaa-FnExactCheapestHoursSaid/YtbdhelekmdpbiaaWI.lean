/- Laws of a list of numbers that return a list: copies, marks. -/
import Derived.Test.YtbdhelekmdpbiaaOW2
namespace Go.Proofs.Ytbdhelekmdpbiaa
open Go.ChangeShapes Go.WideShapes Go.ChangeAt Go.RowKit
set_option linter.unusedVariables false
set_option linter.unusedSimpArgs false

theorem AllInts.copy (w : World) (t : TypeId) (xs : List Int) : AllInts w.heap.size xs.length (w.alloc (.cells (ints xs) t)) :=
  ⟨by simp, fun i hi => ⟨⟨nth xs i, by
    have h : (ints xs)[i]? = some (.int .i64 (nth xs i)) := ints_at hi
    simp [h]⟩, by simp⟩⟩
theorem toInt64S_m (A : Option Addr) (n c : Nat) (z : List Int) (hz : z.length = n) (hn : n ≤ 1048576) (w : World) (hr : RowI w A z) : Calls Try.prog 5 #[.slice A n c] w fun e w' => e = .returned (.slice (some ⟨w.heap.size, 0, none⟩) n n) ∧ RowI w' (some ⟨w.heap.size, 0, none⟩) z ∧ AllInts w.heap.size n w' ∧ Below w.heap.size w w' := by
  subst hz
  refine (toInt64S_c A c z hn w hr).mono ?_
  rintro e w' ⟨rfl, rfl⟩
  exact ⟨rfl, RowI.new _ _ _, AllInts.copy _ _ _, (Below.refl _ _).alloc (Nat.le_refl _) _⟩
theorem eqInt64S_d (A B : Option Addr) (n c d : Nat) (z : List Int) (hz : z.length = n) (hn : n ≤ 1048576) (w : World) (ha : RowI w A z) (hb : RowI w B z) : Calls Try.prog 7 #[.slice A n c, .slice B n d] w fun e w' => e = .returned (.bool true) ∧ Below w.heap.size w w' := by
  subst hz
  refine (eqInt64S_c A B c d z hn w ha hb).mono ?_
  rintro e w' ⟨rfl, n, rfl⟩
  exact ⟨rfl, bdrewN (Below.refl _ _) n⟩
set_option maxHeartbeats 1000000 in
theorem markInt64G_c (b n c : Nat) (k : Int) (hk : 0 ≤ k) (hk' : k ≤ 1000000000) (hn : n ≤ 1048576) (w : World) (h : AllInts b n w) : Calls Try.prog 8 #[.slice (some ⟨b, 0, none⟩) n c, .int .i64 k] w fun e w' => e = .returned (.int .i64 (k + n)) ∧ w.grownBy w' (some b) := by
  have HA := Lib.hid h
  clear h
  go_enter Try.func8, Try.ntmps8
  go_wp2
  go_loopw [1, 5] (fun q i wr => ∃ m : Nat, m ≤ n ∧ i = .int .i64 m ∧ q = .int .i64 (k + m) ∧ Hid (AllInts b n wr) ∧ w.grownBy wr (some b)) (fun _ i _ => n - (intOf i).toNat)
  case atStart => exact ⟨0, by omega, rfl, by simp, HA, World.grownBy.refl _ _⟩
  case round =>
    obtain ⟨m, hm, rfl, rfl, HW, hG⟩ := hrel
    by_cases hlt : m < n
    · have i1 : (m : Int) < n := by omega
      obtain ⟨⟨y0, c0⟩, f0⟩ := HW.out.2 m (by omega)
      have lb := HW.out.1
      go_wp2
      go_roundw
      case rel => exact ⟨m + 1, by omega, by go_num, by go_num, Lib.hid (HW.out.set _ _), grown_set hG _ _⟩
      case measure => simp [intOf]; omega
    · obtain rfl : m = n := by omega
      go_wp2
      go_ret
      exact ⟨rfl, hG⟩
end Go.Proofs.Ytbdhelekmdpbiaa
