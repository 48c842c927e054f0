/- FnProfiles: what each function gives, by its value. -/
import Derived.Test.YtmmabkmcgffnpaaDQ
import Derived.Test.YtmmabkmcgffnpaaOA
namespace Go.Proofs.Ytmmabkmcgffnpaa
open Go.ChangeShapes Go.WideShapes Go.ChangeAt Go.RowKit
set_option linter.unusedVariables false
set_option linter.unusedSimpArgs false

theorem implRT_v {a c r y way t q : Int} (h : fRide (profOk a c r y) way (timeI a c r y way) = (t, q)) (w : World) : Calls Try.prog 17 #[.agg #[.int .i64 a, .int .i64 c, .int .i64 r, .int .i64 y], .int .i64 way] w fun e w' => e = .returned (.tuple #[.int .i64 t, .int .i64 q]) ∧ Below w.heap.size w w' := by
  have := implRideTime_c a c r y way w
  rw [h] at this
  exact this
theorem specRT_v {a c r y way t q : Int} (h : fRide (profOk a c r y) way (timeI a c r y way) = (t, q)) (w : World) : Calls Try.prog 16 #[.agg #[.int .i64 a, .int .i64 c, .int .i64 r, .int .i64 y], .int .i64 way] w fun e w' => e = .returned (.tuple #[.int .i64 t, .int .i64 q]) ∧ Below w.heap.size w w' := by
  have := specRideTime_c a c r y way w
  rw [h] at this
  exact this
theorem implTS_v {a c r y way t q : Int} (h : fRide (profOk a c r y) way (topI a c r y way) = (t, q)) (w : World) : Calls Try.prog 15 #[.agg #[.int .i64 a, .int .i64 c, .int .i64 r, .int .i64 y], .int .i64 way] w fun e w' => e = .returned (.tuple #[.int .i64 t, .int .i64 q]) ∧ Below w.heap.size w w' := by
  have := implTopSpeed_c a c r y way w
  rw [h] at this
  exact this
theorem implPA_v {a c r y way sec x v q : Int} (h : fPlace3 (profOk a c r y) (inB way 0 3000000 && inB sec 0 3000000) (fPlace sec a c r y way) = (x, v, q)) (w : World) : Calls Try.prog 23 #[.agg #[.int .i64 a, .int .i64 c, .int .i64 r, .int .i64 y], .int .i64 way, .int .i64 sec] w fun e w' => e = .returned (.tuple #[.int .i64 x, .int .i64 v, .int .i64 q]) ∧ Below w.heap.size w w' := by
  have := implPlaceAfter_c a c r y way sec w
  rw [h] at this
  exact this
theorem specPA_v {a c r y way sec x v q : Int} (h : fPlace3 (profOk a c r y) (inB way 0 3000000 && inB sec 0 3000000) (fPlace sec a c r y way) = (x, v, q)) (w : World) : Calls Try.prog 22 #[.agg #[.int .i64 a, .int .i64 c, .int .i64 r, .int .i64 y], .int .i64 way, .int .i64 sec] w fun e w' => e = .returned (.tuple #[.int .i64 x, .int .i64 v, .int .i64 q]) ∧ Below w.heap.size w w' := by
  have := specPlaceAfter_c a c r y way sec w
  rw [h] at this
  exact this
theorem implSA_v {a c r y way p t q : Int} (h : fRide2 (profOk a c r y) (inB way 0 3000000 && inB p 0 way) (secondI p a c r y way) = (t, q)) (w : World) : Calls Try.prog 19 #[.agg #[.int .i64 a, .int .i64 c, .int .i64 r, .int .i64 y], .int .i64 way, .int .i64 p] w fun e w' => e = .returned (.tuple #[.int .i64 t, .int .i64 q]) ∧ Below w.heap.size w w' := by
  have := implSecondAt_c a c r y way p w
  rw [h] at this
  exact this
theorem implSF_v {a c r y way p t q : Int} (h : fRide2 (profOk a c r y) (inB way 0 3000000 && inB p 0 15000) (fastI p a c r y way) = (t, q)) (w : World) : Calls Try.prog 21 #[.agg #[.int .i64 a, .int .i64 c, .int .i64 r, .int .i64 y], .int .i64 way, .int .i64 p] w fun e w' => e = .returned (.tuple #[.int .i64 t, .int .i64 q]) ∧ Below w.heap.size w w' := by
  have := implSecondsFast_c a c r y way p w
  rw [h] at this
  exact this
theorem implLC_v {a c r y way p t q : Int} (h : fLeast a c r y way p = (t, q)) (w : World) : Calls Try.prog 25 #[.agg #[.int .i64 a, .int .i64 c, .int .i64 r, .int .i64 y], .int .i64 way, .int .i64 p] w fun e w' => e = .returned (.tuple #[.int .i64 t, .int .i64 q]) ∧ Below w.heap.size w w' := by
  have := implLeastCruise_c a c r y way p w
  rw [h] at this
  exact this
theorem implNS_v {a c r y way p t q : Int} (h : fNext a c r y way p = (t, q)) (w : World) : Calls Try.prog 13 #[.agg #[.int .i64 a, .int .i64 c, .int .i64 r, .int .i64 y], .int .i64 way, .int .i64 p] w fun e w' => e = .returned (.tuple #[.int .i64 t, .int .i64 q]) ∧ Below w.heap.size w w' := by
  have := implNextSpeed_c a c r y way p w
  rw [h] at this
  exact this
/-- All that FnProfiles asks of one ride, by values. -/
theorem ride_vals {a c r y way : Int} (hp : profOk a c r y = true) (w0 : 1 ≤ way) (w1 : way ≤ 2000000) (c9 : c ≤ 14000) : ∃ T top e1 n1 n2 : Int, 1 ≤ T ∧ T ≤ way ∧ 1 ≤ top ∧ top ≤ c ∧ n1 < way ∧
    fRide (profOk a c r y) way (timeI a c r y way) = (T, 0) ∧ fRide (profOk a c r y) way (topI a c r y way) = (top, 0) ∧
    fPlace3 (profOk a c r y) (inB way 0 3000000 && inB T 0 3000000) (fPlace T a c r y way) = (way, e1, 0) ∧
    fPlace3 (profOk a c r y) (inB way 0 3000000 && inB (T - 1) 0 3000000) (fPlace (T - 1) a c r y way) = (n1, n2, 0) ∧
    fPlace3 (profOk a c r y) (inB way 0 3000000 && inB (T + 1) 0 3000000) (fPlace (T + 1) a c r y way) = (way, 0, 0) ∧
    (∀ s : Int, 0 ≤ s → s ≤ T → ∃ x v : Int, 0 ≤ x ∧ x ≤ way ∧ 0 ≤ v ∧ v ≤ top ∧ fPlace3 (profOk a c r y) (inB way 0 3000000 && inB s 0 3000000) (fPlace s a c r y way) = (x, v, 0) ∧
      (s < T → ∃ nx : Int, fPlace3 (profOk a c r y) (inB way 0 3000000 && inB (s + 1) 0 3000000) (fPlace (s + 1) a c r y way) = (x + nx, nx, 0) ∧ fNext a c r y v (way - x) = (nx, 0) ∧ 0 ≤ nx ∧ nx ≤ 15000 ∧ nx ≤ max r (min c (v + a)) ∧ nx ≤ way - x ∧ min r (way - x) ≤ nx ∧ (r < nx → nx * nx ≤ r * r + 2 * a * max 0 (way - x - nx - y)))) ∧
    (∀ p : Int, 0 ≤ p → p ≤ way → ∃ k x v b u q : Int, 0 ≤ k ∧ k ≤ T ∧ fRide2 (profOk a c r y) (inB way 0 3000000 && inB p 0 way) (secondI p a c r y way) = (k, 0) ∧ fPlace3 (profOk a c r y) (inB way 0 3000000 && inB k 0 3000000) (fPlace k a c r y way) = (x, v, 0) ∧ p ≤ x ∧ fPlace3 (profOk a c r y) (inB way 0 3000000 && inB (k - 1) 0 3000000) (fPlace (k - 1) a c r y way) = (b, u, q) ∧ (q ≠ 0 ∨ b < p)) ∧
    (∃ f : Int, 1 ≤ f ∧ fRide2 (profOk a c r y) (inB way 0 3000000 && inB top 0 15000) (fastI top a c r y way) = (f, 0)) ∧
    fRide2 (profOk a c r y) (inB way 0 3000000 && inB (top + 1) 0 15000) (fastI (top + 1) a c r y way) = (0, 0) ∧
    fRide2 (profOk a c r y) (inB way 0 3000000 && inB 0 0 15000) (fastI 0 a c r y way) = (T, 0) := by
  obtain ⟨⟨a0, a1⟩, ⟨c0, c1⟩, ⟨r0, r1⟩, ⟨y0, y1⟩⟩ := profOk_true hp
  have hw : inB way 0 3000000 = true := inB_of (by omega) (by omega)
  have hP : ∀ s : Int, 0 ≤ s → s ≤ 3000000 → fPlace3 (profOk a c r y) (inB way 0 3000000 && inB s 0 3000000) (fPlace s a c r y way) = ((fPlace s a c r y way).1, (fPlace s a c r y way).2, 0) := fun s s0 s1 => by
    rw [hp, hw, inB_of s0 s1]
    rfl
  obtain ⟨T, hT, t1, tw, top1, topc, p1, p2, p3, pall, pstep, pat, f1, f2, f3⟩ := ride_all (y := y) hp w0 (by omega)
  refine ⟨T, topI a c r y way, (fPlace T a c r y way).2, (fPlace ((T : Int) - 1) a c r y way).1, (fPlace ((T : Int) - 1) a c r y way).2, by omega, tw, top1, topc, p2, ?_, ?_, ?_, ?_, ?_, ?_, ?_, ?_, ?_, ?_⟩
  · simp [fRide, hp, hw, hT]
  · simp [fRide, hp, hw]
  · rw [hP _ (by omega) (by omega), p1]
  · rw [hP _ (by omega) (by omega)]
  · rw [hP _ (by omega) (by omega), p3]
  · intro s s0 s1
    obtain ⟨x0, x1, v0, v1⟩ := pall s s0 s1
    refine ⟨_, _, x0, x1, v0, v1, hP s s0 (by omega), fun hs => ?_⟩
    obtain ⟨b0, b1, b2, _, b4⟩ := nextI_bd (a := a) (c := c) (r := r) (y := y) (speed := (fPlace s a c r y way).2) (left := way - (fPlace s a c r y way).1) (by omega) r1 r0 (by omega)
    obtain ⟨m1, m2⟩ := nextI_more (a := a) (c := c) (r := r) (y := y) (speed := (fPlace s a c r y way).2) (left := way - (fPlace s a c r y way).1) (by omega) r1 r0 (by omega)
    refine ⟨_, ?_, ?_, b0, by omega, m1, b1, b4, m2⟩
    · rw [hP _ (by omega) (by omega), pstep s s0 hs]
    · simp [fNext, hp, inB_of v0 (show (fPlace s a c r y way).2 ≤ 15000 by omega), inB_of (show 0 ≤ way - (fPlace s a c r y way).1 by omega) (show way - (fPlace s a c r y way).1 ≤ 3000000 by omega)]
  · intro p p0 pw
    rcases Int.lt_or_le 0 p with h | h
    · obtain ⟨m, hm, e1, e2, e3⟩ := pat p h pw
      refine ⟨(m : Int) + 1, (fPlace ((m : Int) + 1) a c r y way).1, (fPlace ((m : Int) + 1) a c r y way).2, (fPlace m a c r y way).1, (fPlace m a c r y way).2, 0, by omega, by omega, ?_, hP _ (by omega) (by omega), e2, ?_, .inr e3⟩
      · simp [fRide2, hp, hw, inB_of p0 pw, secondI, show ¬ p = 0 by omega, e1]
      · rw [show (m : Int) + 1 - 1 = m by omega]
        exact hP _ (by omega) (by omega)
    · obtain rfl : p = 0 := by omega
      refine ⟨0, (fPlace 0 a c r y way).1, (fPlace 0 a c r y way).2, 0, 0, 2, by omega, by omega, ?_, hP _ (by omega) (by omega), ?_, ?_, .inl (by omega)⟩
      · simp [fRide2, hp, hw, inB_of p0 pw, secondI]
      · exact (pall 0 (by omega) (by omega)).1
      · simp [fPlace3, hp, hw, inB]
  · exact ⟨_, f1, by simp [fRide2, hp, hw, inB_of (show 0 ≤ topI a c r y way by omega) (show topI a c r y way ≤ 15000 by omega)]⟩
  · simp [fRide2, hp, hw, inB_of (show 0 ≤ topI a c r y way + 1 by omega) (show topI a c r y way + 1 ≤ 15000 by omega), f2]
  · simp [fRide2, hp, hw, inB_of (show (0 : Int) ≤ 0 by omega) (show (0 : Int) ≤ 15000 by omega), f3]
end Go.Proofs.Ytmmabkmcgffnpaa
