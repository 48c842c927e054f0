/- Contracts of the program's functions on tracks: length, height, section, validity. -/
import Derived.Test.YtmkfkpfblnblgaaX
namespace Go.Proofs.Ytmkfkpfblnblgaa
open Go.ChangeShapes Go.WideShapes Go.ChangeAt Go.RowKit
set_option linter.unusedVariables false
set_option linter.unusedSimpArgs false

theorem RowI.sec {w : World} {A : Option Addr} {z : List Int} {n : Nat} (h : RowI w A z) (hz : z.length = n * 2) {k : Nat} (hk : k < n) : ∃ b off, A = some ⟨b, off, none⟩ ∧ b < w.heap.size ∧ w.cell? ⟨b, off + k * 2, none⟩ = some (.int .i64 (secL z k)) ∧ w.cell? ⟨b, off + k * 2 + 1, none⟩ = some (.int .i64 (secG z k)) := by
  obtain ⟨b, off, rfl, hb, hc⟩ := h (by omega)
  exact ⟨b, off, rfl, hb, hc (k * 2) (by omega), by rw [Nat.add_assoc]; exact hc (k * 2 + 1) (by omega)⟩
/-- Where the search for a section stands. -/
def secRest (z : List Int) (n k : Nat) (x : Int) : Nat := if k < n then secF z (n - 1 - k) k x else n - 1
theorem secRest_start {z : List Int} {n : Nat} {x : Int} (h : 1 ≤ n) : secRest z n 0 x = secAt z n x := by
  unfold secRest secAt
  rw [if_pos (by omega)]
  rfl
theorem secRest_hit {z : List Int} {n k : Nat} {x : Int} (hk : k < n) (h : x < secL z k) : secRest z n k x = k := by
  unfold secRest
  rw [if_pos hk]
  rcases hm : n - 1 - k with _ | m
  · rfl
  · rw [secF, if_pos h]
theorem secRest_on {z : List Int} {n k : Nat} {x : Int} (hk : k < n) (h : ¬ x < secL z k) : secRest z n k x = secRest z n (k + 1) (x - secL z k) := by
  unfold secRest
  rw [if_pos hk]
  rcases hm : n - 1 - k with _ | m
  · rw [if_neg (by omega), secF]
    omega
  · rw [if_pos (by omega), secF, if_neg h]
    congr 1
    omega
set_option maxHeartbeats 1000000 in
theorem length_c (A : Option Addr) (n c : Nat) (z : List Int) (f u : Int) (hz : z.length = n * 2) (hn : n ≤ 12) (hs : secsB z n = true) (w : World) (hr : RowI w A z) : Calls Try.prog 59 #[.agg #[.slice A n c, .int .i64 f, .int .i64 u]] w fun e w' => e = .returned (.int .i64 (lenTo z n)) ∧ Below w.heap.size w w' := by
  have HS := Lib.hid hs
  clear hs
  have hr1 := hr.alloc (.cells #[.slice A n c, .int .i64 f, .int .i64 u] 30)
  have hB1 : Below w.heap.size w (w.alloc (.cells #[.slice A n c, .int .i64 f, .int .i64 u] 30)) := (Below.refl _ _).alloc (Nat.le_refl _) _
  go_enter Try.func59, Try.ntmps59
  go_wp2
  generalize w.alloc (.cells #[.slice A n c, .int .i64 f, .int .i64 u] 30) = W at *
  go_loopw [3, 9] (fun s i wr => ∃ k : Nat, k ≤ n ∧ i = .int .i64 k ∧ s = .int .i64 (lenTo z k) ∧ Below W.heap.size W wr) (fun _ i _ => n - (intOf i).toNat)
  case atStart => exact ⟨0, by omega, rfl, rfl, Below.refl _ _⟩
  case round =>
    obtain ⟨k, hk, rfl, rfl, hBr⟩ := hrel
    obtain ⟨b0, b1⟩ := lenTo_bd HS.out k hk
    by_cases hlt : k < n
    · obtain ⟨b, off, rfl, hbb, c1, c2⟩ := (hr1.below hBr).sec hz hlt
      obtain ⟨⟨l0, l1⟩, g0, g1⟩ := secsB_at HS.out hlt
      have i1 : (k : Int) < n := by omega
      go_wp2
      go_roundw
      case rel => exact ⟨k + 1, by omega, by go_num, rfl, (hBr.alloc hBr.size _)⟩
      case measure => simp [intOf]; omega
    · obtain rfl : k = n := by omega
      go_wp2
      go_ret
      exact ⟨rfl, hB1.trans (hBr.mono hB1.size)⟩
set_option maxHeartbeats 1000000 in
theorem heightAt_c (A : Option Addr) (n c : Nat) (z : List Int) (f u x : Int) (hz : z.length = n * 2) (hn : n ≤ 12) (hs : secsB z n = true) (x0 : 0 ≤ x) (x1 : x ≤ 3000000) (w : World) (hr : RowI w A z) : Calls Try.prog 82 #[.agg #[.slice A n c, .int .i64 f, .int .i64 u], .int .i64 x] w fun e w' => e = .returned (.int .i64 (hgtI z n x)) ∧ Below w.heap.size w w' := by
  have HS := Lib.hid hs
  clear hs
  have hr1 := hr.alloc (.cells #[.slice A n c, .int .i64 f, .int .i64 u] 30)
  have hB1 : Below w.heap.size w (w.alloc (.cells #[.slice A n c, .int .i64 f, .int .i64 u] 30)) := (Below.refl _ _).alloc (Nat.le_refl _) _
  go_enter Try.func82, Try.ntmps82
  go_wp2
  generalize w.alloc (.cells #[.slice A n c, .int .i64 f, .int .i64 u] 30) = W at *
  go_loopw [1, 5, 12] (fun y s i wr => ∃ k : Nat, k ≤ n ∧ i = .int .i64 k ∧ s = .int .i64 (hgtSt z x k).1 ∧ y = .int .i64 (hgtSt z x k).2 ∧ Below W.heap.size W wr) (fun _ _ i _ => n - (intOf i).toNat)
  case atStart => exact ⟨0, by omega, rfl, rfl, rfl, Below.refl _ _⟩
  case round =>
    obtain ⟨k, hk, rfl, rfl, rfl, hBr⟩ := hrel
    obtain ⟨b0, b1, b2, b3⟩ := hgtSt_bd HS.out x0 k hk
    by_cases hlt : k < n
    · obtain ⟨b, off, rfl, hbb, c1, c2⟩ := (hr1.below hBr).sec hz hlt
      obtain ⟨⟨l0, l1⟩, g0, g1⟩ := secsB_at HS.out hlt
      have i1 : (k : Int) < n := by omega
      have HN := Lib.hid (show hgtSt z x (k + 1) = ((hgtSt z x k).1 + min (hgtSt z x k).2 (secL z k) * secG z k, (hgtSt z x k).2 - min (hgtSt z x k).2 (secL z k)) from rfl)
      generalize (hgtSt z x k).1 = s at *
      generalize (hgtSt z x k).2 = t at *
      obtain ⟨p0, p1⟩ := mul_bd (show 0 ≤ t by omega) (show t ≤ 3000000 by omega) g0 g1
      obtain ⟨q0, q1⟩ := mul_bd (show 0 ≤ secL z k by omega) l1 g0 g1
      rcases Int.lt_or_le (secL z k) t with ht | ht
      · have e : min t (secL z k) = secL z k := by omega
        rw [e] at HN
        clear e
        go_wp2
        go_roundw
        case rel => exact ⟨k + 1, by omega, by go_num, by rw [HN.out], by rw [HN.out], (hBr.alloc hBr.size _)⟩
        case measure => simp [intOf]; omega
      · have e : min t (secL z k) = t := by omega
        rw [e, Int.sub_self] at HN
        clear e
        go_wp2
        go_roundw
        case rel => exact ⟨k + 1, by omega, by go_num, by rw [HN.out], by rw [HN.out], (hBr.alloc hBr.size _)⟩
        case measure => simp [intOf]; omega
    · obtain rfl : k = n := by omega
      have HH := Lib.hid (show hgtI z k x = (hgtSt z x k).1 / 1000 from rfl)
      go_wp2
      go_ret
      exact ⟨by (rw [HH.out]) <;> rfl, hB1.trans (hBr.mono hB1.size)⟩
set_option maxHeartbeats 1000000 in
theorem sectionAt_c (A : Option Addr) (n c : Nat) (z : List Int) (f u x : Int) (hz : z.length = n * 2) (hn0 : 1 ≤ n) (hn : n ≤ 12) (hs : secsB z n = true) (x0 : 0 ≤ x) (x1 : x ≤ 3000000) (w : World) (hr : RowI w A z) : Calls Try.prog 88 #[.agg #[.slice A n c, .int .i64 f, .int .i64 u], .int .i64 x] w fun e w' => e = .returned (.int .i64 (secAt z n x)) ∧ Below w.heap.size w w' := by
  have HS := Lib.hid hs
  clear hs
  have hr1 := hr.alloc (.cells #[.slice A n c, .int .i64 f, .int .i64 u] 30)
  have hB1 : Below w.heap.size w (w.alloc (.cells #[.slice A n c, .int .i64 f, .int .i64 u] 30)) := (Below.refl _ _).alloc (Nat.le_refl _) _
  have kc : (w.alloc (.cells #[.slice A n c, .int .i64 f, .int .i64 u] 30)).cell? ⟨w.heap.size, 0, none⟩ = some (.slice A n c) := by simp
  have kl : w.heap.size < (w.alloc (.cells #[.slice A n c, .int .i64 f, .int .i64 u] 30)).heap.size := by simp
  have H0 := Lib.hid (secRest_start (z := z) (x := x) hn0)
  go_enter Try.func88, Try.ntmps88
  go_wp2
  generalize w.alloc (.cells #[.slice A n c, .int .i64 f, .int .i64 u] 30) = W at *
  go_loopw [1, 10] (fun y i wr => ∃ (k : Nat) (t : Int), k ≤ n ∧ 0 ≤ t ∧ t ≤ 3000000 ∧ i = .int .i64 k ∧ y = .int .i64 t ∧ Hid (secRest z n k t = secAt z n x) ∧ Below W.heap.size W wr) (fun _ i _ => n - (intOf i).toNat)
  case atStart => exact ⟨0, x, by omega, by omega, by omega, rfl, rfl, H0, Below.refl _ _⟩
  case round =>
    obtain ⟨k, t, hk, t0, t1, rfl, rfl, HK, hBr⟩ := hrel
    have kc' := (hBr.cell (p := ⟨w.heap.size, 0, none⟩) kl).trans kc
    by_cases hlt : k < n
    · obtain ⟨b, off, rfl, hbb, c1, c2⟩ := (hr1.below hBr).sec hz hlt
      obtain ⟨⟨l0, l1⟩, g0, g1⟩ := secsB_at HS.out hlt
      have i1 : (k : Int) < n := by omega
      by_cases ht : t < secL z k
      · have HN := Lib.hid (secRest_hit (z := z) hlt ht)
        go_wp2
        go_ret
        exact ⟨by (rw [← HK.out, HN.out]) <;> rfl, hB1.trans ((hBr.alloc hBr.size _).mono hB1.size)⟩
      · have HN := Lib.hid (secRest_on (z := z) hlt ht)
        go_wp2
        go_roundw
        case rel => exact ⟨k + 1, t - secL z k, by omega, by omega, by omega, by go_num, rfl, Lib.hid (HN.out.symm.trans HK.out), (hBr.alloc hBr.size _)⟩
        case measure => simp [intOf]; omega
    · obtain rfl : k = n := by omega
      have HH := Lib.hid (show secRest z k k t = k - 1 by unfold secRest; rw [if_neg (by omega)])
      go_wp2
      go_ret
      exact ⟨by rw [← HK.out, HH.out]; go_num, hB1.trans (hBr.mono hB1.size)⟩
end Go.Proofs.Ytmkfkpfblnblgaa
