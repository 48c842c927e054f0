/- The next speed of a profile. -/
import Derived.Test.YtmmabkmcgffnpaaQ
import Derived.Test.YtmmabkmcgffnpaaV
namespace Go.Proofs.Ytmmabkmcgffnpaa
open Go.ChangeShapes Go.WideShapes Go.ChangeAt Go.RowKit
set_option linter.unusedVariables false
set_option linter.unusedSimpArgs false

theorem dec_lt (a b : Int) : decide (a < b) = !decide (b ≤ a) := by
  rw [Bool.eq_iff_iff]
  simp
/-- What impl.least hands back. -/
def LeastPost (p : Int → Bool) (lo hi : Int) (w : World) (e : Ending) (w' : World) : Prop := ∃ r : Int, e = .returned (.int .i64 r) ∧ LeastAt p lo hi r ∧ w = w'
theorem nextSpeed1_c (a c r y left v : Int) (a0 : 1 ≤ a) (a1 : a ≤ 2000) (r0 : 100 ≤ r) (r1 : r ≤ 15000) (y0 : 0 ≤ y) (y1 : y ≤ 3000000) (l0 : 0 ≤ left) (l1 : left ≤ 3000000) (v0 : 0 ≤ v) (v1 : v ≤ 20000) (b d : Nat) (w : World) (h0 : w.cell? ⟨b, 0, none⟩ = some (.int .i64 a)) (h1 : w.cell? ⟨b, 1, none⟩ = some (.int .i64 c)) (h2 : w.cell? ⟨b, 2, none⟩ = some (.int .i64 r)) (h3 : w.cell? ⟨b, 3, none⟩ = some (.int .i64 y)) (h4 : w.cell? ⟨d, 0, none⟩ = some (.int .i64 left)) : Calls Try.prog 56 #[.int .i64 v, .pointer (some ⟨b, 0, none⟩), .pointer (some ⟨d, 0, none⟩)] w fun e w' => e = .returned (.bool (!mayB a r y v left)) ∧ w = w' := by
  obtain ⟨⟨p0, p1⟩, ⟨q0, q1⟩, s0, s1⟩ := may_bd a0 a1 r0 r1 y0 v0 v1 l0 l1
  have HM := Lib.hid (show mayB a r y v left = decide (v * v ≤ r * r + 2 * a * max 0 (left - v - y)) from rfl)
  rcases Int.lt_or_le 0 (left - v - y) with hx | hx
  · have e1 : max 0 (left - v - y) = left - v - y := by omega
    rw [e1] at s0 s1 HM
    go_enter Try.func56, Try.ntmps56
    go_wp2
    go_ret
    exact ⟨by rw [HM.out]; simp; exact dec_lt _ _, rfl⟩
  · have e1 : max 0 (left - v - y) = 0 := by omega
    rw [e1] at s0 s1 HM
    go_enter Try.func56, Try.ntmps56
    go_wp2
    go_ret
    exact ⟨by rw [HM.out]; simp; exact dec_lt _ _, rfl⟩
theorem leastNext_c (a c r y left lo hi : Int) (a0 : 1 ≤ a) (a1 : a ≤ 2000) (r0 : 100 ≤ r) (r1 : r ≤ 15000) (y0 : 0 ≤ y) (y1 : y ≤ 3000000) (l0 : 0 ≤ left) (l1 : left ≤ 3000000) (v0 : 0 ≤ lo) (v1 : lo ≤ hi) (v2 : hi ≤ 20000) (b d : Nat) (w : World) (h0 : w.cell? ⟨b, 0, none⟩ = some (.int .i64 a)) (h1 : w.cell? ⟨b, 1, none⟩ = some (.int .i64 c)) (h2 : w.cell? ⟨b, 2, none⟩ = some (.int .i64 r)) (h3 : w.cell? ⟨b, 3, none⟩ = some (.int .i64 y)) (h4 : w.cell? ⟨d, 0, none⟩ = some (.int .i64 left)) : Calls Try.prog 55 #[.int .i64 lo, .int .i64 hi, .func (.func 56) #[] #[.pointer (some ⟨b, 0, none⟩), .pointer (some ⟨d, 0, none⟩)]] w (LeastPost (fun v => !mayB a r y v left) lo hi w) := by
  have mono : ∀ v v', 0 ≤ v → v ≤ v' → mayB a r y v' left = true → mayB a r y v left = true := fun v v' hv h k => mayB_mono (by omega) hv h k
  have HMO := Lib.hid mono
  clear mono
  go_enter Try.func55, Try.ntmps55
  go_wp2
  go_loop [0, 7] (fun p q => ∃ x z : Int, lo ≤ x ∧ x ≤ z ∧ z ≤ hi + 1 ∧ Hid (∀ v, lo ≤ v → v < x → mayB a r y v left = true) ∧ Hid (z ≤ hi → mayB a r y z left = false) ∧ p = .int .i64 x ∧ q = .int .i64 z) (fun p q => (intOf q - intOf p).toNat)
  case atStart => exact ⟨lo, hi + 1, by omega, by omega, by omega, Lib.hid (fun v _ _ => by omega), Lib.hid (fun _ => by omega), rfl, rfl⟩
  case round =>
    obtain ⟨x, z, hx, hxz, hz, HX, HZ, rfl, rfl⟩ := hrel
    by_cases hlt : x < z
    · have m0 : 0 ≤ (x + z) / 2 := by omega
      have m1 : (x + z) / 2 ≤ 20000 := by omega
      have m2 : x ≤ (x + z) / 2 := by omega
      have m3 : (x + z) / 2 < z := by omega
      cases hm : mayB a r y ((x + z) / 2) left
      ·
        go_wp2_with
          (first
            | (go_at_call 56; go_call (nextSpeed1_c a c r y left); rintro e w' ⟨rfl, rfl⟩))
        go_round
        case rel => exact ⟨x, (x + z) / 2, by omega, by omega, by omega, HX, Lib.hid (fun _ => hm), rfl, rfl⟩
        case measure => simp [intOf]; omega
      ·
        go_wp2_with
          (first
            | (go_at_call 56; go_call (nextSpeed1_c a c r y left); rintro e w' ⟨rfl, rfl⟩))
        go_round
        case rel => exact ⟨(x + z) / 2 + 1, z, by omega, by omega, by omega, Lib.hid (fun v hv1 hv2 => HMO.out v _ (by omega) (by omega) hm), HZ, rfl, rfl⟩
        case measure => simp [intOf]; omega
    · obtain rfl : x = z := by omega
      go_wp2
      go_ret
      exact ⟨x, rfl, ⟨hx, hz, fun v hv1 hv2 => by simp [HX.out v hv1 hv2], fun h => by simp [HZ.out h]⟩, rfl⟩
theorem nextSpeed_c (a c r y speed left : Int) (a0 : 1 ≤ a) (a1 : a ≤ 2000) (r0 : 100 ≤ r) (r1 : r ≤ 15000) (y0 : 0 ≤ y) (y1 : y ≤ 3000000) (l0 : 0 ≤ left) (l1 : left ≤ 3000000) (c0 : r ≤ c) (c1 : c ≤ 15000) (s0 : 0 ≤ speed) (s1 : speed ≤ 15000) (w : World) : Calls Try.prog 36 #[.agg #[.int .i64 a, .int .i64 c, .int .i64 r, .int .i64 y], .int .i64 speed, .int .i64 left] w fun e w' => e = .returned (.int .i64 (nextI a c r y speed left)) ∧ Below w.heap.size w w' := by
  have hself := mayB_self a r y left (by omega)
  have HL : ∀ q, LeastAt (fun v => !mayB a r y v left) r (min c (speed + a)) q → r < min c (speed + a) → nextI a c r y speed left = min (q - 1) left := fun q hq h => by
    have e : min c (speed + a) = r + ((highI a c r speed - r).toNat : Nat) := by unfold highI; omega
    rw [nextI, great_of_least e hself hq (fun v v' h1 h2 h3 k => mayB_mono (by omega) (by omega) h2 k)]
  have HL' := Lib.hid HL
  have HE := Lib.hid (show ¬ r < min c (speed + a) → nextI a c r y speed left = min r left from fun h => by
    have e : highI a c r speed = r := by unfold highI; omega
    rw [nextI, e, Int.sub_self]
    rfl)
  clear HL hself
  rcases Int.lt_or_le (speed + a) c with h | h
  · have e : min c (speed + a) = speed + a := by omega
    rw [e] at HL' HE
    clear e
    by_cases g : r < speed + a
    · go_enter Try.func36, Try.ntmps36
      go_wp2_with
        (first
          | (go_at_call 55; (refine (leastNext_c a c r y left _ _ a0 a1 r0 r1 y0 y1 l0 l1 (by omega) (by omega) (by omega) _ _ _ (by simp [go_sem]) (by simp [go_sem]) (by simp [go_sem]) (by simp [go_sem]) (by simp [go_sem])).mono ?_); rintro e w' ⟨q, rfl, hq, rfl⟩; have hq1 := hq.1; have hq2 := hq.2.1; have HQ := Lib.hid (HL'.out q hq g); clear hq))
      all_goals
        go_ret
        refine ⟨by rw [HQ.out]; first | rfl | (simp; done) | (simp; omega), ?_⟩
        repeat' (first
          | (with_reducible exact Below.refl _ _)
          | (with_reducible assumption)
          | (with_reducible refine Below.alloc ?_ ?_ _)
          | (with_reducible refine Below.drew ?_)
          | (with_reducible refine bdrewN ?_ _)
          | (with_reducible refine Below.setCell ?_ ?_ _)
          | (with_reducible refine bthen (by assumption) ?_ ?_)
          | go_size)
    · have HQ := Lib.hid (HE.out g)
      go_enter Try.func36, Try.ntmps36
      go_wp2
      all_goals
        go_ret
        refine ⟨by rw [HQ.out]; first | rfl | (simp; done) | (simp; omega), ?_⟩
        repeat' (first
          | (with_reducible exact Below.refl _ _)
          | (with_reducible assumption)
          | (with_reducible refine Below.alloc ?_ ?_ _)
          | (with_reducible refine Below.drew ?_)
          | (with_reducible refine bdrewN ?_ _)
          | (with_reducible refine Below.setCell ?_ ?_ _)
          | (with_reducible refine bthen (by assumption) ?_ ?_)
          | go_size)
  · have e : min c (speed + a) = c := by omega
    rw [e] at HL' HE
    clear e
    by_cases g : r < c
    · go_enter Try.func36, Try.ntmps36
      go_wp2_with
        (first
          | (go_at_call 55; (refine (leastNext_c a c r y left _ _ a0 a1 r0 r1 y0 y1 l0 l1 (by omega) (by omega) (by omega) _ _ _ (by simp [go_sem]) (by simp [go_sem]) (by simp [go_sem]) (by simp [go_sem]) (by simp [go_sem])).mono ?_); rintro e w' ⟨q, rfl, hq, rfl⟩; have hq1 := hq.1; have hq2 := hq.2.1; have HQ := Lib.hid (HL'.out q hq g); clear hq))
      all_goals
        go_ret
        refine ⟨by rw [HQ.out]; first | rfl | (simp; done) | (simp; omega), ?_⟩
        repeat' (first
          | (with_reducible exact Below.refl _ _)
          | (with_reducible assumption)
          | (with_reducible refine Below.alloc ?_ ?_ _)
          | (with_reducible refine Below.drew ?_)
          | (with_reducible refine bdrewN ?_ _)
          | (with_reducible refine Below.setCell ?_ ?_ _)
          | (with_reducible refine bthen (by assumption) ?_ ?_)
          | go_size)
    · have HQ := Lib.hid (HE.out g)
      go_enter Try.func36, Try.ntmps36
      go_wp2
      all_goals
        go_ret
        refine ⟨by rw [HQ.out]; first | rfl | (simp; done) | (simp; omega), ?_⟩
        repeat' (first
          | (with_reducible exact Below.refl _ _)
          | (with_reducible assumption)
          | (with_reducible refine Below.alloc ?_ ?_ _)
          | (with_reducible refine Below.drew ?_)
          | (with_reducible refine bdrewN ?_ _)
          | (with_reducible refine Below.setCell ?_ ?_ _)
          | (with_reducible refine bthen (by assumption) ?_ ?_)
          | go_size)
theorem l09May_c (a c r y left v : Int) (a0 : 1 ≤ a) (a1 : a ≤ 2000) (r0 : 100 ≤ r) (r1 : r ≤ 15000) (y0 : 0 ≤ y) (y1 : y ≤ 3000000) (l0 : 0 ≤ left) (l1 : left ≤ 3000000) (v0 : 0 ≤ v) (v1 : v ≤ 20000) (b : Nat) (w : World) (h0 : w.cell? ⟨b, 0, none⟩ = some (.int .i64 a)) (h1 : w.cell? ⟨b, 1, none⟩ = some (.int .i64 c)) (h2 : w.cell? ⟨b, 2, none⟩ = some (.int .i64 r)) (h3 : w.cell? ⟨b, 3, none⟩ = some (.int .i64 y)) : Calls Try.prog 53 #[.pointer (some ⟨b, 0, none⟩), .int .i64 v, .int .i64 left] w fun e w' => e = .returned (.bool (mayB a r y v left)) ∧ ∃ n, w' = w.drewN n := by
  obtain ⟨⟨p0, p1⟩, ⟨q0, q1⟩, s0, s1⟩ := may_bd a0 a1 r0 r1 y0 v0 v1 l0 l1
  have HM := Lib.hid (show mayB a r y v left = decide (v * v ≤ r * r + 2 * a * max 0 (left - v - y)) from rfl)
  have m0 : 0 ≤ max 0 (left - v - y) := by omega
  have m1 : max 0 (left - v - y) ≤ 3000000 := by omega
  go_enter Try.func53, Try.ntmps53
  go_wp2
  go_quiet ((first
      | (go_at_call 38; exact quiet_left (l00Max_c _ _ _))
      | (go_at_call 38; exact quiet_add_left (l00Max_c _ _ _))))
  go_wp2
  go_ret
  exact ⟨by rw [HM.out]; rfl, (by first | exact ⟨_, rfl⟩ | exact ⟨_, World.drewN_drewN _ _ _⟩ | exact ⟨0, rfl⟩)⟩
theorem l09Next_c (a c r y speed left : Int) (a0 : 1 ≤ a) (a1 : a ≤ 2000) (r0 : 100 ≤ r) (r1 : r ≤ 15000) (y0 : 0 ≤ y) (y1 : y ≤ 3000000) (l0 : 0 ≤ left) (l1 : left ≤ 3000000) (c0 : r ≤ c) (c1 : c ≤ 15000) (s0 : 0 ≤ speed) (s1 : speed ≤ 15000) (b : Nat) (w : World) (h0 : w.cell? ⟨b, 0, none⟩ = some (.int .i64 a)) (h1 : w.cell? ⟨b, 1, none⟩ = some (.int .i64 c)) (h2 : w.cell? ⟨b, 2, none⟩ = some (.int .i64 r)) (h3 : w.cell? ⟨b, 3, none⟩ = some (.int .i64 y)) : Calls Try.prog 32 #[.pointer (some ⟨b, 0, none⟩), .int .i64 speed, .int .i64 left] w fun e w' => e = .returned (.int .i64 (nextI a c r y speed left)) ∧ ∃ n, w' = w.drewN n := by
  have hself := mayB_self a r y left (by omega)
  have g0 : r ≤ highI a c r speed := by unfold highI; omega
  have g1 : highI a c r speed ≤ 15000 := by unfold highI; omega
  have HL := Lib.hid (show ∀ q, r ≤ q → q ≤ highI a c r speed → mayB a r y q left = true → (∀ v, q < v → v ≤ highI a c r speed → mayB a r y v left = false) → nextI a c r y speed left = min q left from fun q h1 h2 h3 h4 => by
    have e : highI a c r speed = r + ((highI a c r speed - r).toNat : Nat) := by omega
    rw [nextI, ← great_of e hself h1 h2 h3 h4])
  have HS := Lib.hid hself
  have HH := Lib.hid (show highI a c r speed = max r (min c (speed + a)) from rfl)
  have HMO := Lib.hid (show ∀ v v', 0 ≤ v → v ≤ v' → mayB a r y v' left = true → mayB a r y v left = true from fun v v' hv h k => mayB_mono (by omega) hv h k)
  clear hself
  go_enter Try.func32, Try.ntmps32
  go_wp2
  go_quiet ((first
      | (go_at_call 38; exact quiet_left (l00Max_c _ _ _))
      | (go_at_call 38; exact quiet_add_left (l00Max_c _ _ _))
      | (go_at_call 52; exact quiet_left (l00Min_c _ _ _))
      | (go_at_call 52; exact quiet_add_left (l00Min_c _ _ _))))
  go_wp2
  rw [← HH.out]
  generalize highI a c r speed = hi at *
  go_loopw [7, 8] (fun p q wr => ∃ x z : Int, r ≤ x ∧ x ≤ z ∧ z ≤ hi ∧ Hid (mayB a r y x left = true) ∧ Hid (∀ v, z < v → v ≤ hi → mayB a r y v left = false) ∧ p = .int .i64 x ∧ q = .int .i64 z ∧ ∃ n, wr = w.drewN n) (fun p q _ => (intOf q - intOf p).toNat)
  case atStart => exact ⟨r, hi, by omega, by omega, by omega, HS, Lib.hid (fun v _ _ => by omega), rfl, rfl, (by first | exact ⟨_, rfl⟩ | exact ⟨_, World.drewN_drewN _ _ _⟩ | exact ⟨0, rfl⟩)⟩
  case round =>
    obtain ⟨x, z, hx, hxz, hz, HX, HZ, rfl, rfl, n, rfl⟩ := hrel
    by_cases hlt : x < z
    · have m0 : 0 ≤ (x + z + 1) / 2 := by omega
      have m1 : (x + z + 1) / 2 ≤ 20000 := by omega
      have m2 : x < (x + z + 1) / 2 := by omega
      have m3 : (x + z + 1) / 2 ≤ z := by omega
      cases hm : mayB a r y ((x + z + 1) / 2) left
      ·
        go_wp2_with
          (first
            | (go_at_call 53; go_call (l09May_c a c r y left); rintro e w' ⟨rfl, nq, rfl⟩))
        go_roundw
        case rel => exact ⟨x, (x + z + 1) / 2 - 1, by omega, by omega, by omega, HX, Lib.hid (fun v hv1 hv2 => Bool.eq_false_iff.2 (fun hv => by have := HMO.out _ v (by omega) (show (x + z + 1) / 2 ≤ v by omega) hv; rw [hm] at this; cases this)), rfl, rfl, (by first | exact ⟨_, rfl⟩ | exact ⟨_, World.drewN_drewN _ _ _⟩ | exact ⟨0, rfl⟩)⟩
        case measure => simp [intOf]; omega
      ·
        go_wp2_with
          (first
            | (go_at_call 53; go_call (l09May_c a c r y left); rintro e w' ⟨rfl, nq, rfl⟩))
        go_roundw
        case rel => exact ⟨(x + z + 1) / 2, z, by omega, by omega, by omega, Lib.hid hm, HZ, rfl, rfl, (by first | exact ⟨_, rfl⟩ | exact ⟨_, World.drewN_drewN _ _ _⟩ | exact ⟨0, rfl⟩)⟩
        case measure => simp [intOf]; omega
    · obtain rfl : x = z := by omega
      have HQ := Lib.hid (HL.out x hx hz HX.out HZ.out)
      go_wp2_with
        (first
          | (go_at_call 52; go_call (l00Min_c _ _ _); rintro e w' ⟨rfl, rfl⟩))
      go_ret
      exact ⟨by rw [HQ.out]; rfl, (by first | exact ⟨_, rfl⟩ | exact ⟨_, World.drewN_drewN _ _ _⟩ | exact ⟨0, rfl⟩)⟩
end Go.Proofs.Ytmmabkmcgffnpaa
