/- Contracts of the reference's functions on tracks and forces. -/
import Derived.Test.YtmkfkpfblnblgaaX2
namespace Go.Proofs.Ytmkfkpfblnblgaa
open Go.ChangeShapes Go.WideShapes Go.ChangeAt Go.RowKit
set_option linter.unusedVariables false
set_option linter.unusedSimpArgs false

set_option maxHeartbeats 1000000 in
theorem l03Length_c (A : Option Addr) (n c : Nat) (z : List Int) (b : Nat) (hz : z.length = n * 2) (hn : n ≤ 12) (hs : secsB z n = true) (w : World) (hr : RowI w A z) (h0 : w.cell? ⟨b, 0, none⟩ = some (.slice A n c)) : Calls Try.prog 55 #[.pointer (some ⟨b, 0, none⟩)] w fun e w' => e = .returned (.int .i64 (lenTo z n)) ∧ w = w' := by
  have HS := Lib.hid hs
  clear hs
  go_enter Try.func55, Try.ntmps55
  go_wp2
  go_loop [3, 4] (fun s i => ∃ k : Nat, k ≤ n ∧ i = .int .i64 k ∧ s = .int .i64 (lenTo z k)) (fun _ i => n - (intOf i).toNat)
  case atStart => exact ⟨0, by omega, rfl, rfl⟩
  case round =>
    obtain ⟨k, hk, rfl, rfl⟩ := hrel
    obtain ⟨b0, b1⟩ := lenTo_bd HS.out k hk
    by_cases hlt : k < n
    · obtain ⟨b, off, rfl, hbb, c1, c2⟩ := hr.sec hz hlt
      obtain ⟨⟨l0, l1⟩, g0, g1⟩ := secsB_at HS.out hlt
      have i1 : (k : Int) < n := by omega
      go_wp2
      go_round
      case rel => exact ⟨k + 1, by omega, by go_num, rfl⟩
      case measure => simp [intOf]; omega
    · obtain rfl : k = n := by omega
      go_wp2
      go_ret
      exact ⟨rfl, rfl⟩
set_option maxHeartbeats 1000000 in
theorem l03Height_c (A : Option Addr) (n c : Nat) (z : List Int) (x : Int) (b : Nat) (hz : z.length = n * 2) (hn : n ≤ 12) (hs : secsB z n = true) (x0 : 0 ≤ x) (x1 : x ≤ 3000000) (w : World) (hr : RowI w A z) (h0 : w.cell? ⟨b, 0, none⟩ = some (.slice A n c)) : Calls Try.prog 81 #[.pointer (some ⟨b, 0, none⟩), .int .i64 x] w fun e w' => e = .returned (.int .i64 (hgtI z n x)) ∧ w = w' := by
  have HS := Lib.hid hs
  clear hs
  go_enter Try.func81, Try.ntmps81
  go_wp2
  go_loop [1, 5, 6] (fun y s i => ∃ k : Nat, k ≤ n ∧ i = .int .i64 k ∧ s = .int .i64 (hgtSt z x k).1 ∧ y = .int .i64 (hgtSt z x k).2) (fun _ _ i => n - (intOf i).toNat)
  case atStart => exact ⟨0, by omega, rfl, rfl, rfl⟩
  case round =>
    obtain ⟨k, hk, rfl, rfl, rfl⟩ := hrel
    obtain ⟨b0, b1, b2, b3⟩ := hgtSt_bd HS.out x0 k hk
    by_cases hlt : k < n
    · obtain ⟨b, off, rfl, hbb, c1, c2⟩ := hr.sec hz hlt
      obtain ⟨⟨l0, l1⟩, g0, g1⟩ := secsB_at HS.out hlt
      have i1 : (k : Int) < n := by omega
      have HN := Lib.hid (show hgtSt z x (k + 1) = ((hgtSt z x k).1 + min (hgtSt z x k).2 (secL z k) * secG z k, (hgtSt z x k).2 - min (hgtSt z x k).2 (secL z k)) from rfl)
      generalize (hgtSt z x k).1 = s at *
      generalize (hgtSt z x k).2 = t at *
      obtain ⟨p0, p1⟩ := mul_bd (show 0 ≤ min t (secL z k) by omega) (show min t (secL z k) ≤ 3000000 by omega) g0 g1
      have m0 : 0 ≤ min t (secL z k) := by omega
      have m1 : min t (secL z k) ≤ t := by omega
      go_wp2_with
        (first
          | (go_at_call 61; go_call (l00Min_c _ _ _); rintro e w' ⟨rfl, rfl⟩))
      go_round
      case rel => exact ⟨k + 1, by omega, by go_num, by rw [HN.out], by rw [HN.out]⟩
      case measure => simp [intOf]; omega
    · obtain rfl : k = n := by omega
      have HH := Lib.hid (show hgtI z k x = (hgtSt z x k).1 / 1000 from rfl)
      go_wp2
      go_ret
      exact ⟨by (rw [HH.out]) <;> rfl, rfl⟩
set_option maxHeartbeats 1000000 in
theorem l03Section_c (A : Option Addr) (n c : Nat) (z : List Int) (x : Int) (b : Nat) (hz : z.length = n * 2) (hn0 : 1 ≤ n) (hn : n ≤ 12) (hs : secsB z n = true) (x0 : 0 ≤ x) (x1 : x ≤ 3000000) (w : World) (hr : RowI w A z) (h0 : w.cell? ⟨b, 0, none⟩ = some (.slice A n c)) : Calls Try.prog 87 #[.pointer (some ⟨b, 0, none⟩), .int .i64 x] w fun e w' => e = .returned (.int .i64 (secAt z n x)) ∧ w = w' := by
  have HS := Lib.hid hs
  clear hs
  have H0 := Lib.hid (secRest_start (z := z) (x := x) hn0)
  go_enter Try.func87, Try.ntmps87
  go_wp2
  go_loop [1, 5] (fun y i => ∃ (k : Nat) (t : Int), k + 1 ≤ n ∧ 0 ≤ t ∧ t ≤ 3000000 ∧ i = .int .i64 k ∧ y = .int .i64 t ∧ Hid (secRest z n k t = secAt z n x)) (fun _ i => n - (intOf i).toNat)
  case atStart => exact ⟨0, x, by omega, by omega, by omega, rfl, rfl, H0⟩
  case round =>
    obtain ⟨k, t, hk, t0, t1, rfl, rfl, HK⟩ := hrel
    obtain ⟨b, off, rfl, hbb, c1, c2⟩ := hr.sec hz (show k < n by omega)
    obtain ⟨⟨l0, l1⟩, g0, g1⟩ := secsB_at HS.out (show k < n by omega)
    have i2 : (k : Int) < n := by omega
    by_cases hlt : k + 1 < n
    · have i1 : (k : Int) < n - 1 := by omega
      by_cases ht : t < secL z k
      · have HN := Lib.hid (secRest_hit (z := z) (show k < n by omega) ht)
        go_wp2
        go_ret
        exact ⟨by (rw [← HK.out, HN.out]) <;> rfl, rfl⟩
      · have HN := Lib.hid (secRest_on (z := z) (show k < n by omega) ht)
        go_wp2
        go_round
        case rel => exact ⟨k + 1, t - secL z k, by omega, by omega, by omega, by go_num, rfl, Lib.hid (HN.out.symm.trans HK.out)⟩
        case measure => simp [intOf]; omega
    · have i1 : ¬ (k : Int) < n - 1 := by omega
      have HH := Lib.hid (show secRest z n k t = k by unfold secRest; rw [if_pos (by omega), show n - 1 - k = 0 by omega, secF])
      go_wp2
      go_ret
      exact ⟨by (rw [← HK.out, HH.out]) <;> rfl, rfl⟩
theorem l03Grade_c (A : Option Addr) (n c : Nat) (z : List Int) (x : Int) (b : Nat) (hz : z.length = n * 2) (hn0 : 1 ≤ n) (hn : n ≤ 12) (hs : secsB z n = true) (x0 : 0 ≤ x) (x1 : x ≤ 3000000) (w : World) (hr : RowI w A z) (h0 : w.cell? ⟨b, 0, none⟩ = some (.slice A n c)) : Calls Try.prog 74 #[.pointer (some ⟨b, 0, none⟩), .int .i64 x] w fun e w' => e = .returned (.int .i64 (grdI z n x)) ∧ ∃ m, w' = w.drewN m := by
  have hlt := secAt_lt z x hn0
  have HSE := Lib.hid (l03Section_c A n c z x b hz hn0 hn hs x0 x1)
  obtain ⟨b', off, rfl, hb0, c1, c2⟩ := hr.sec hz hlt
  have hg : grdI z n x = secG z (secAt z n x) := rfl
  rw [hg]
  clear hg
  have i1 : (secAt z n x : Int) < n := by omega
  go_enter Try.func74, Try.ntmps74
  go_wp2
  go_quiet ((go_at_call 87; exact quiet_left (HSE.out _ (by first | exact hr | exact hr.drewN _) (by first | exact h0 | (simp [h0]; done)))))
  go_wp2
  go_ret
  exact ⟨by first | rfl | simp, (by first | exact ⟨_, rfl⟩ | exact ⟨_, World.drewN_drewN _ _ _⟩ | exact ⟨0, rfl⟩)⟩
end Go.Proofs.Ytmkfkpfblnblgaa
