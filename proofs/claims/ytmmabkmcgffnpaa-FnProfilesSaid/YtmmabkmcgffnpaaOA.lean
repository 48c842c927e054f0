/- What the law on profiles asks of rides, in one place: plain. -/
import Derived.Test.YtmmabkmcgffnpaaO9
namespace Go.Proofs.Ytmmabkmcgffnpaa
set_option linter.unusedVariables false
set_option linter.unusedSimpArgs false

theorem greatF_may {a r y left : Int} (a0 : 0 ≤ a) (n : Nat) : mayB a r y (greatF (fun v => mayB a r y v left) r n) left = true := (greatF_at (fun v => mayB a r y v left) r (mayB_self a r y left a0) n).2.2.1
theorem nextI_more {a c r y speed left : Int} (a0 : 0 ≤ a) (h0 : r ≤ c) (r0 : 100 ≤ r) (l0 : 0 ≤ left) : nextI a c r y speed left ≤ max r (min c (speed + a)) ∧ (r < nextI a c r y speed left → nextI a c r y speed left * nextI a c r y speed left ≤ r * r + 2 * a * max 0 (left - nextI a c r y speed left - y)) := by
  have h2 := @highI_bd a c r speed h0
  have h1 := greatF_at (fun v => mayB a r y v left) r (mayB_self a r y left a0) (highI a c r speed - r).toNat
  have h3 := greatF_may (r := r) (y := y) (left := left) a0 (highI a c r speed - r).toNat
  obtain ⟨k1, k2, _, _⟩ := h1
  have e : highI a c r speed = max r (min c (speed + a)) := rfl
  have hb := nextI_bd (a := a) (c := c) (r := r) (y := y) (speed := speed) (left := left) a0 h0 r0 l0
  have hle : nextI a c r y speed left ≤ greatF (fun v => mayB a r y v left) r (highI a c r speed - r).toNat := by
    unfold nextI
    omega
  refine ⟨by omega, fun hr => ?_⟩
  have := mayB_mono (v := nextI a c r y speed left) a0 hb.1 hle h3
  unfold mayB at this
  exact of_decide_eq_true this
theorem ceil100 (r : Int) : r ≤ (r + 99) / 100 * 100 ∧ (r + 99) / 100 * 100 < r + 100 ∧ (r + 99) / 100 * 100 % 100 = 0 := by omega
theorem leastC_is {a r y way secs c0 : Int} : ∀ (n : Nat) (c : Int), c0 ≤ c → c % 100 = 0 → (c = c0 ∨ (c0 ≤ c - 100 ∧ secs < timeI a (c - 100) r y way)) → (leastC a r y way secs n c = (0, 3) ∨ ∃ d, leastC a r y way secs n c = (d, 0) ∧ c0 ≤ d ∧ d ≤ 15000 ∧ d % 100 = 0 ∧ timeI a d r y way ≤ secs ∧ (d = c0 ∨ (c0 ≤ d - 100 ∧ secs < timeI a (d - 100) r y way)))
  | 0, c, _, _, _ => .inl rfl
  | n + 1, c, h1, h2, h3 => by
    by_cases h : 15000 < c
    · exact .inl (leastC_end h)
    · by_cases k : timeI a c r y way ≤ secs
      · exact .inr ⟨c, leastC_hit h k, h1, by omega, h2, k, h3⟩
      · rw [leastC_on h k]
        refine leastC_is n (c + 100) (by omega) (by omega) (.inr ⟨by omega, ?_⟩)
        rw [show c + 100 - 100 = c by omega]
        omega
theorem fLeast_is {a c r y way secs : Int} (hp : profOk a c r y = true) (hw : inB way 0 3000000 = true) (hs : inB secs 0 3000000 = true) : fLeast a c r y way secs = (0, 3) ∨ ∃ d, fLeast a c r y way secs = (d, 0) ∧ r ≤ d ∧ d ≤ 15000 ∧ d % 100 = 0 ∧ fRide (profOk a d r y) way (timeI a d r y way) = (timeI a d r y way, 0) ∧ timeI a d r y way ≤ secs ∧ (fRide (profOk a (d - 100) r y) way (timeI a (d - 100) r y way) = (0, 1) ∨ (fRide (profOk a (d - 100) r y) way (timeI a (d - 100) r y way) = (timeI a (d - 100) r y way, 0) ∧ secs < timeI a (d - 100) r y way)) := by
  obtain ⟨⟨a0, a1⟩, ⟨c0, c1⟩, ⟨r0, r1⟩, ⟨y0, y1⟩⟩ := profOk_true hp
  obtain ⟨e1, e2, e3⟩ := ceil100 r
  have e : fLeast a c r y way secs = leastI a r y way secs := by simp [fLeast, hp, hw, hs]
  rw [e]
  rcases leastC_is (a := a) (r := r) (y := y) (way := way) (secs := secs) 200 _ (Int.le_refl _) e3 (.inl rfl) with h | ⟨d, h1, h2, h3, h4, h5, h6⟩
  · exact .inl h
  · refine .inr ⟨d, h1, by omega, h3, h4, ?_, h5, ?_⟩
    · simp [fRide, profOk_with hp (show r ≤ d by omega) h3, hw]
    · rcases h6 with h6 | ⟨h6, h7⟩
      · refine .inl ?_
        have : profOk a (d - 100) r y = false := by
          rcases hq : profOk a (d - 100) r y with _ | _
          · rfl
          · have := profOk_true hq
            omega
        simp [fRide, this]
      · refine .inr ⟨?_, h7⟩
        simp [fRide, profOk_with hp (show r ≤ d - 100 by omega) (by omega), hw]
section
variable {a c r y way : Int}
theorem tF_le (a0 : 0 ≤ a) (h0 : r ≤ c) (r0 : 100 ≤ r) (n : Nat) (pl sp : Int) (h1 : pl ≤ way) : (tF a c r y way n pl sp : Int) ≤ way - pl := by
  induction n generalizing pl sp with
  | zero => simp [tF]; omega
  | succ n ih =>
    by_cases h : pl < way
    · obtain ⟨v0, v1, _, v3, _⟩ := nextI_bd (a := a) (c := c) (r := r) (y := y) (speed := sp) (left := way - pl) a0 h0 r0 (by omega)
      have hv := v3 (by omega)
      have := ih (pl + nextI a c r y sp (way - pl)) (nextI a c r y sp (way - pl)) (by omega)
      rw [tF_on h]
      omega
    · rw [tF_end h]
      omega
/-- All that FnProfiles asks of one ride. -/
theorem ride_all (hp : profOk a c r y = true) (w0 : 1 ≤ way) (w1 : way ≤ 3000000) : ∃ T : Nat, timeI a c r y way = T ∧ 1 ≤ T ∧ (T : Int) ≤ way ∧ 1 ≤ topI a c r y way ∧ topI a c r y way ≤ c ∧
    (fPlace T a c r y way).1 = way ∧ (fPlace ((T : Int) - 1) a c r y way).1 < way ∧ fPlace ((T : Int) + 1) a c r y way = (way, 0) ∧
    (∀ s : Int, 0 ≤ s → s ≤ T → 0 ≤ (fPlace s a c r y way).1 ∧ (fPlace s a c r y way).1 ≤ way ∧ 0 ≤ (fPlace s a c r y way).2 ∧ (fPlace s a c r y way).2 ≤ topI a c r y way) ∧
    (∀ s : Int, 0 ≤ s → s < T → fPlace (s + 1) a c r y way = ((fPlace s a c r y way).1 + nextI a c r y (fPlace s a c r y way).2 (way - (fPlace s a c r y way).1), nextI a c r y (fPlace s a c r y way).2 (way - (fPlace s a c r y way).1))) ∧
    (∀ q : Int, 0 < q → q ≤ way → ∃ m : Nat, m < T ∧ atI q a c r y way = (m : Int) + 1 ∧ q ≤ (fPlace ((m : Int) + 1) a c r y way).1 ∧ (fPlace m a c r y way).1 < q) ∧
    1 ≤ fastI (topI a c r y way) a c r y way ∧ fastI (topI a c r y way + 1) a c r y way = 0 ∧ fastI 0 a c r y way = T := by
  obtain ⟨⟨a0, a1⟩, ⟨c0, c1⟩, ⟨r0, r1⟩, ⟨y0, y1⟩⟩ := profOk_true hp
  have a0' : 0 ≤ a := by omega
  have ht := ride_time (a := a) (c := c) (r := r) (y := y) (way := way) way.toNat 0 0 0
  have hT1 : 1 ≤ tF a c r y way way.toNat 0 0 := by
    obtain ⟨k, hk⟩ : ∃ k, way.toNat = k + 1 := ⟨way.toNat - 1, by omega⟩
    rw [hk, tF_on (by omega)]
    omega
  have hTw := tF_le (y := y) a0' r1 r0 way.toNat 0 0 (show 0 ≤ way by omega)
  obtain ⟨p1, p2, p3⟩ := after_t (y := y) (way := way) a0' r1 r0 way.toNat 0 0 (by omega) (by omega)
  have pstep := fun k => after_step (a := a) (c := c) (r := r) (y := y) (way := way) way.toNat k 0 0
  have pspeed := fun k hk => after_speed (y := y) (way := way) a0' r1 r0 way.toNat k hk (by omega) (by omega)
  obtain ⟨t1, t2, t3⟩ := ride_top (a := a) (c := c) (r := r) (y := y) (way := way) way.toNat 0 0 0
  have pfast := fun q => ride_fast (a := a) (c := c) (r := r) (y := y) (way := way) q way.toNat 0 0 0
  have pat := fun q => ride_at (y := y) (way := way) a0' r1 r0 q way.toNat 0 0 0
  have hpl : ∀ s : Nat, fPlace s a c r y way = afterF a c r y way s 0 0 := fun s => by simp [fPlace]
  have htop : topI a c r y way = rideF stTop a c r y way way.toNat 0 0 0 := rfl
  have hfast : ∀ q, fastI q a c r y way = rideF (stFast q) a c r y way way.toNat 0 0 0 := fun q => rfl
  have hat : ∀ q, atI q a c r y way = rideF (stAt q) a c r y way way.toNat 0 0 0 := fun q => rfl
  have htime : timeI a c r y way = rideF stTime a c r y way way.toNat 0 0 0 := rfl
  rw [← htime] at ht
  rw [← htop] at t1 t2 t3
  simp only [← hfast] at pfast
  simp only [← hat] at pat
  generalize tF a c r y way way.toNat 0 0 = T at *
  have hfirst := pspeed 1 (by omega)
  have htop1 := t2 0 (by omega)
  have hf1 := hfirst.2.2 (by omega)
  refine ⟨T, by omega, hT1, by omega, by simp only [Nat.zero_add] at htop1; omega, ?_, by rw [hpl]; exact p2, ?_, ?_, ?_, ?_, ?_, ?_, ?_, ?_⟩
  · rcases t3 with t3 | ⟨k, hk, t3⟩
    · omega
    · have := (pspeed (k + 1) (by omega)).2.1
      omega
  · rw [show (T : Int) - 1 = ((T - 1 : Nat) : Int) by omega, hpl]
    exact (p1 (T - 1) (by omega)).1
  · rw [show (T : Int) + 1 = ((T + 1 : Nat) : Int) by omega, hpl]
    exact p3 0
  · intro s s0 s1
    obtain ⟨k, rfl⟩ : ∃ k : Nat, s = k := ⟨s.toNat, by omega⟩
    rw [hpl]
    have hsp := pspeed k (by omega)
    have htp : (afterF a c r y way k 0 0).2 ≤ topI a c r y way := by
      cases k with
      | zero => simp [afterF]; omega
      | succ k => exact t2 k (by omega)
    rcases Nat.lt_or_ge k T with h | h
    · have := p1 k h
      exact ⟨by omega, by omega, hsp.1, htp⟩
    · obtain rfl : k = T := by omega
      exact ⟨by omega, by omega, hsp.1, htp⟩
  · intro s s0 s1
    obtain ⟨k, rfl⟩ : ∃ k : Nat, s = k := ⟨s.toNat, by omega⟩
    rw [show (k : Int) + 1 = ((k + 1 : Nat) : Int) by omega, hpl, hpl]
    exact pstep k (by omega)
  · intro q q0 q1
    obtain ⟨m, h1, h2, h3, h4⟩ := pat q q0 q1 (by omega)
    exact ⟨m, h1, by omega, by rw [show (m : Int) + 1 = ((m + 1 : Nat) : Int) by omega, hpl]; exact h3, by rw [hpl]; exact h4⟩
  · have := (pfast (topI a c r y way)).2.1 (by
      rcases t3 with t3 | ⟨k, hk, t3⟩
      · simp only [Nat.zero_add] at htop1
        omega
      · exact ⟨k, hk, by omega⟩)
    omega
  · exact (pfast (topI a c r y way + 1)).2.2.1 (fun k hk => by
      have := t2 k hk
      omega)
  · have := (pfast 0).2.2.2 (fun k hk => (pspeed (k + 1) (by omega)).1)
    omega
end
end Go.Proofs.Ytmmabkmcgffnpaa
