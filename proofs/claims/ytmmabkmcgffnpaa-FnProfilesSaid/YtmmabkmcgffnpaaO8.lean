/- The place and the speed of a ride after some seconds: the exported functions and the law. -/
import Derived.Test.YtmmabkmcgffnpaaO7
namespace Go.Proofs.Ytmmabkmcgffnpaa
open Go.ChangeShapes Go.WideShapes Go.ChangeAt Go.RowKit
set_option linter.unusedVariables false
set_option linter.unusedSimpArgs false

def fPlace3 (ok fine : Bool) (p : Int × Int) : Int × Int × Int := if ok then (if fine then (p.1, p.2, 0) else (0, 0, 2)) else (0, 0, 1)
theorem fPlace_end {a c r y way sec : Int} (a0 : 0 ≤ a) (h0 : r ≤ c) (r0 : 100 ≤ r) (w0 : 0 ≤ way) (s0 : 0 < sec) : endPl (rideF stPlace a c r y way way.toNat 0 0 (0, 0, sec)) = fPlace sec a c r y way := by
  have h := ride_after (a := a) (c := c) (r := r) (y := y) (way := way) a0 h0 r0 way.toNat 0 0 (sec.toNat - 1) (by omega) (by omega)
  have e1 : sec.toNat - 1 + 1 = sec.toNat := by omega
  have e2 : ((sec.toNat : Nat) : Int) = sec := by omega
  rw [e1, e2] at h
  exact h
set_option maxHeartbeats 1000000 in
theorem implPlaceAfter_f (a c r y way sec : Int) (w : World) (hl : inB way 0 3000000 = false) : Calls Try.prog 23 #[.agg #[.int .i64 a, .int .i64 c, .int .i64 r, .int .i64 y], .int .i64 way, .int .i64 sec] w fun e w' => e = .returned (.tuple #[.int .i64 0, .int .i64 0, .int .i64 (codeOf (profOk a c r y) false)]) ∧ Below w.heap.size w w' := by
  cases hok : profOk a c r y
  all_goals
    go_enter Try.func23, Try.ntmps23
    go_wp2
    first | go_region_with ((first | (go_at_call 35; go_call (isWay_v hl _); rintro e w' ⟨rfl, rfl⟩) | (go_at_call 33; go_call (profiled_c _ _ _ _ _ _); rintro e w' ⟨rfl, hb⟩; obtain ⟨qc, qf, qz, qs⟩ := bfacts hb; (try simp only [World.size_alloc, World.size_setCell, World.size_drew, World.heap_drewN] at qs)))) | fail
    all_goals
      go_wp2
      go_returns
      refine ⟨by simp [hok], ?_⟩
      repeat' (first
        | (with_reducible exact Below.refl _ _)
        | (with_reducible assumption)
        | (with_reducible refine Below.alloc ?_ ?_ _)
        | (with_reducible refine Below.drew ?_)
        | (with_reducible refine bdrewN ?_ _)
        | (with_reducible refine Below.setCell ?_ ?_ _)
        | (with_reducible refine bthen (by assumption) ?_ ?_)
        | go_size)
set_option maxHeartbeats 1000000 in
theorem implPlaceAfter_b (a c r y way sec : Int) (w : World) (hl : inB way 0 3000000 = true) (hb : (profOk a c r y && inB sec 0 3000000) = false) : Calls Try.prog 23 #[.agg #[.int .i64 a, .int .i64 c, .int .i64 r, .int .i64 y], .int .i64 way, .int .i64 sec] w fun e w' => e = .returned (.tuple #[.int .i64 0, .int .i64 0, .int .i64 (codeOf (profOk a c r y) false)]) ∧ Below w.heap.size w w' := by
  cases hok : profOk a c r y <;> cases hs : inB sec 0 3000000
  case true.true => simp [hok, hs] at hb
  all_goals
    clear hb
    go_enter Try.func23, Try.ntmps23
    go_wp2
    go_region_held3 (fun w' => w'.cell? ⟨w.heap.size, 0, none⟩ = some (.int .i64 a) ∧ w'.cell? ⟨w.heap.size, 1, none⟩ = some (.int .i64 c) ∧ w'.cell? ⟨w.heap.size, 2, none⟩ = some (.int .i64 r) ∧ w'.cell? ⟨w.heap.size, 3, none⟩ = some (.int .i64 y)) (simp [*, go_sem])
      (first
        | (go_at_call 35; go_call (isWay_v hl _); rintro e w' ⟨rfl, rfl⟩)
        | (go_at_call 35; go_call (isWay_v hs _); rintro e w' ⟨rfl, rfl⟩)
        | (go_at_call 33; go_call (profiled_c _ _ _ _ _ _); rintro e w' ⟨rfl, hb⟩; obtain ⟨qc, qf, qz, qs⟩ := bfacts hb; (try simp only [World.size_alloc, World.size_setCell, World.size_drew, World.heap_drewN] at qs)))
    go_wp2
    go_returns
    refine ⟨by simp [hok], ?_⟩
    repeat' (first
      | (with_reducible exact Below.refl _ _)
      | (with_reducible assumption)
      | (with_reducible refine Below.alloc ?_ ?_ _)
      | (with_reducible refine Below.drew ?_)
      | (with_reducible refine bdrewN ?_ _)
      | (with_reducible refine Below.setCell ?_ ?_ _)
      | (with_reducible refine bthen (by assumption) ?_ ?_)
      | go_size)
set_option maxHeartbeats 1000000 in
theorem implPlaceAfter_t (a c r y way sec : Int) (w : World) (hl : inB way 0 3000000 = true) (hok : profOk a c r y = true) (hs : inB sec 0 3000000 = true) : Calls Try.prog 23 #[.agg #[.int .i64 a, .int .i64 c, .int .i64 r, .int .i64 y], .int .i64 way, .int .i64 sec] w fun e w' => e = .returned (.tuple #[.int .i64 (fPlace sec a c r y way).1, .int .i64 (fPlace sec a c r y way).2, .int .i64 0]) ∧ Below w.heap.size w w' := by
  obtain ⟨⟨a0, a1⟩, ⟨c0, c1⟩, ⟨r0, r1⟩, ⟨y0, y1⟩⟩ := profOk_true hok
  obtain ⟨s0, s1⟩ := inB_true hs
  obtain ⟨w0, w1⟩ := inB_true hl
  have HF := Lib.hid (fun h => fPlace_end (y := y) (way := way) (sec := sec) (show 0 ≤ a by omega) r1 r0 w0 h)
  have HR := Lib.hid (fun b w hc => ridePlace_c a c r y way sec b hok hl w hc s0 s1)
  have H0 := Lib.hid (show sec = 0 → fPlace sec a c r y way = (0, 0) from fun h => by subst h; rfl)
  generalize rideF stPlace a c r y way way.toNat 0 0 (0, 0, sec) = s at HF HR
  obtain ⟨sa, sp, sl⟩ := s
  have HF2 := Lib.hid (show 0 < sec → fPlace sec a c r y way = (sa, if 0 < sl then 0 else sp) from fun h => (HF.out h).symm)
  clear HF
  go_enter Try.func23, Try.ntmps23
  go_wp2
  go_region_held3 (fun w' => w'.cell? ⟨w.heap.size, 0, none⟩ = some (.int .i64 a) ∧ w'.cell? ⟨w.heap.size, 1, none⟩ = some (.int .i64 c) ∧ w'.cell? ⟨w.heap.size, 2, none⟩ = some (.int .i64 r) ∧ w'.cell? ⟨w.heap.size, 3, none⟩ = some (.int .i64 y)) (simp [*, go_sem])
    (first
      | (go_at_call 35; go_call (isWay_v hl _); rintro e w' ⟨rfl, rfl⟩)
      | (go_at_call 35; go_call (isWay_v hs _); rintro e w' ⟨rfl, rfl⟩)
      | (go_at_call 33; go_call (profiled_c _ _ _ _ _ _); rintro e w' ⟨rfl, hb⟩; obtain ⟨qc, qf, qz, qs⟩ := bfacts hb; (try simp only [World.size_alloc, World.size_setCell, World.size_drew, World.heap_drewN] at qs)))
  have S0 : w'.cell? ⟨w.heap.size, 0, none⟩ = some (.int .i64 a) := by simp [*]
  have S1 : w'.cell? ⟨w.heap.size, 1, none⟩ = some (.int .i64 c) := by simp [*]
  have S2 : w'.cell? ⟨w.heap.size, 2, none⟩ = some (.int .i64 r) := by simp [*]
  have S3 : w'.cell? ⟨w.heap.size, 3, none⟩ = some (.int .i64 y) := by simp [*]
  by_cases hq : sec = 0 <;> by_cases hz : 0 < sl
  all_goals
    have z0 : w.heap.size < w'.heap.size := by omega
    have z1 : w.heap.size < w'.heap.size + 1 := by omega
    have z2 : w.heap.size < w'.heap.size + 1 + 1 := by omega
    go_wp2_with (first | (go_at_call 39; (refine (HR.out w'.heap.size _ ⟨⟨by simp [*, go_sem], by simp [*, go_sem], by simp <;> omega⟩, ⟨by simp [*, go_sem], by simp [*, go_sem], by simp <;> omega⟩, ⟨by simp [*, go_sem], by simp [*, go_sem], by simp <;> omega⟩⟩).mono ?_); rintro e w1 ⟨rfl, ⟨⟨hA1, hA2, hA3⟩, ⟨hB1, hB2, hB3⟩, ⟨hC1, hC2, hC3⟩⟩, hO⟩; have hB := hO.below (B := w.heap.size) (by omega) (by simp; try omega); simp only at hA1 hB1 hC1))
    try go_quiet (fail)
    try go_wp2
    first | go_returns | (go_outline; trace_state; fail)
    refine ⟨?_, ?_⟩
    · first
        | (rw [H0.out hq]; simp; done)
        | (rw [HF2.out (by omega), if_pos (by omega)]; simp; done)
        | (rw [HF2.out (by omega), if_neg (by omega)]; simp; done)
    · first
        | refine Below.trans ?_ hB
        | skip
      repeat' (first
        | (with_reducible exact Below.refl _ _)
        | (with_reducible assumption)
        | (with_reducible refine Below.alloc ?_ ?_ _)
        | (with_reducible refine Below.drew ?_)
        | (with_reducible refine bdrewN ?_ _)
        | (with_reducible refine Below.setCell ?_ ?_ _)
        | (with_reducible refine bthen (by assumption) ?_ ?_)
        | go_size)
theorem implPlaceAfter_c (a c r y way sec : Int) (w : World) : Calls Try.prog 23 #[.agg #[.int .i64 a, .int .i64 c, .int .i64 r, .int .i64 y], .int .i64 way, .int .i64 sec] w fun e w' => e = .returned (.tuple #[.int .i64 (fPlace3 (profOk a c r y) (inB way 0 3000000 && inB sec 0 3000000) (fPlace sec a c r y way)).1, .int .i64 (fPlace3 (profOk a c r y) (inB way 0 3000000 && inB sec 0 3000000) (fPlace sec a c r y way)).2.1, .int .i64 (fPlace3 (profOk a c r y) (inB way 0 3000000 && inB sec 0 3000000) (fPlace sec a c r y way)).2.2]) ∧ Below w.heap.size w w' := by
  cases hl : inB way 0 3000000
  · have h := implPlaceAfter_f a c r y way sec w hl
    cases hok : profOk a c r y <;> simpa [fPlace3, hok] using h
  · cases hok : profOk a c r y <;> cases hs : inB sec 0 3000000
    case true.true =>
      have h := implPlaceAfter_t a c r y way sec w hl hok hs
      simpa [fPlace3] using h
    all_goals
      have h := implPlaceAfter_b a c r y way sec w hl (by simp [hok, hs])
      simpa [fPlace3, hok] using h
theorem specPlaceAfter_c (a c r y way sec : Int) (w : World) : Calls Try.prog 22 #[.agg #[.int .i64 a, .int .i64 c, .int .i64 r, .int .i64 y], .int .i64 way, .int .i64 sec] w fun e w' => e = .returned (.tuple #[.int .i64 (fPlace3 (profOk a c r y) (inB way 0 3000000 && inB sec 0 3000000) (fPlace sec a c r y way)).1, .int .i64 (fPlace3 (profOk a c r y) (inB way 0 3000000 && inB sec 0 3000000) (fPlace sec a c r y way)).2.1, .int .i64 (fPlace3 (profOk a c r y) (inB way 0 3000000 && inB sec 0 3000000) (fPlace sec a c r y way)).2.2]) ∧ Below w.heap.size w w' := by
  cases hok : profOk a c r y <;> cases hl : inB way 0 3000000 <;> cases hs : inB sec 0 3000000
  all_goals
    go_enter Try.func22, Try.ntmps22
    go_wp2_with
      (first
        | (go_at_call 37; go_call (l09Ask_v hok hl); rintro e w' ⟨rfl, nq, rfl⟩)
        | (go_at_call 30; go_call (l00In_v hs _); rintro e w' ⟨rfl, rfl⟩)
        | (go_at_call 46; go_call (l09After_c a c r y way sec hok hl hs); rintro e w' ⟨rfl, nq, rfl⟩))
    go_returns
    refine ⟨by simp [fPlace3], ?_⟩
    repeat' (first
      | (with_reducible exact Below.refl _ _)
      | (with_reducible assumption)
      | (with_reducible refine Below.alloc ?_ ?_ _)
      | (with_reducible refine Below.drew ?_)
      | (with_reducible refine bdrewN ?_ _)
      | (with_reducible refine Below.setCell ?_ ?_ _)
      | (with_reducible refine bthen (by assumption) ?_ ?_)
      | go_size)
theorem walk_FnExactPlaceAfter (a c r y way q : Int) (w : World) (_ : I64 a) (_ : I64 c) (_ : I64 r) (_ : I64 y) (_ : I64 way) (_ : I64 q) : Calls Try.prog 8 #[.agg #[.int .i64 a, .int .i64 c, .int .i64 r, .int .i64 y], .int .i64 way, .int .i64 q] w fun e w' => e = .returned (.bool true) ∧ Below w.heap.size w w' := by
  go_enter Try.func8, Try.ntmps8
  go_wp2_with
    (first
      | (go_at_call 12; go_call (toProfile_c _ _ _ _ _); rintro e w' ⟨rfl, hb⟩; obtain ⟨qc, qf, qz, qs⟩ := bfacts hb; (try simp only [World.size_alloc, World.size_setCell, World.size_drew, World.heap_drewN] at qs); have za : w.heap.size < w'.heap.size := (by omega); have pa0 : w'.cell? ⟨w.heap.size, 0, none⟩ = some (.int .i64 a) := (by rw [qc _ _ (by first | assumption | (simp; done) | (simp; omega))]; first | assumption | (simp; done) | (simp [*]; done) | (simp [*, go_sem]; done)); have pa1 : w'.cell? ⟨w.heap.size, 1, none⟩ = some (.int .i64 c) := (by rw [qc _ _ (by first | assumption | (simp; done) | (simp; omega))]; first | assumption | (simp; done) | (simp [*]; done) | (simp [*, go_sem]; done)); have pa2 : w'.cell? ⟨w.heap.size, 2, none⟩ = some (.int .i64 r) := (by rw [qc _ _ (by first | assumption | (simp; done) | (simp; omega))]; first | assumption | (simp; done) | (simp [*]; done) | (simp [*, go_sem]; done)); have pa3 : w'.cell? ⟨w.heap.size, 3, none⟩ = some (.int .i64 y) := (by rw [qc _ _ (by first | assumption | (simp; done) | (simp; omega))]; first | assumption | (simp; done) | (simp [*]; done) | (simp [*, go_sem]; done)))
      | (go_at_call 22; go_call (specPlaceAfter_c _ _ _ _ _ _ _); rintro e w' ⟨rfl, hb⟩; obtain ⟨qc, qf, qz, qs⟩ := bfacts hb; (try simp only [World.size_alloc, World.size_setCell, World.size_drew, World.heap_drewN] at qs); have za : w.heap.size < w'.heap.size := (by omega); have pa0 : w'.cell? ⟨w.heap.size, 0, none⟩ = some (.int .i64 a) := (by rw [qc _ _ (by first | assumption | (simp; done) | (simp; omega))]; first | assumption | (simp; done) | (simp [*]; done) | (simp [*, go_sem]; done)); have pa1 : w'.cell? ⟨w.heap.size, 1, none⟩ = some (.int .i64 c) := (by rw [qc _ _ (by first | assumption | (simp; done) | (simp; omega))]; first | assumption | (simp; done) | (simp [*]; done) | (simp [*, go_sem]; done)); have pa2 : w'.cell? ⟨w.heap.size, 2, none⟩ = some (.int .i64 r) := (by rw [qc _ _ (by first | assumption | (simp; done) | (simp; omega))]; first | assumption | (simp; done) | (simp [*]; done) | (simp [*, go_sem]; done)); have pa3 : w'.cell? ⟨w.heap.size, 3, none⟩ = some (.int .i64 y) := (by rw [qc _ _ (by first | assumption | (simp; done) | (simp; omega))]; first | assumption | (simp; done) | (simp [*]; done) | (simp [*, go_sem]; done)))
      | (go_at_call 23; go_call (implPlaceAfter_c _ _ _ _ _ _ _); rintro e w' ⟨rfl, hb⟩; obtain ⟨qc, qf, qz, qs⟩ := bfacts hb; (try simp only [World.size_alloc, World.size_setCell, World.size_drew, World.heap_drewN] at qs); have za : w.heap.size < w'.heap.size := (by omega); have pa0 : w'.cell? ⟨w.heap.size, 0, none⟩ = some (.int .i64 a) := (by rw [qc _ _ (by first | assumption | (simp; done) | (simp; omega))]; first | assumption | (simp; done) | (simp [*]; done) | (simp [*, go_sem]; done)); have pa1 : w'.cell? ⟨w.heap.size, 1, none⟩ = some (.int .i64 c) := (by rw [qc _ _ (by first | assumption | (simp; done) | (simp; omega))]; first | assumption | (simp; done) | (simp [*]; done) | (simp [*, go_sem]; done)); have pa2 : w'.cell? ⟨w.heap.size, 2, none⟩ = some (.int .i64 r) := (by rw [qc _ _ (by first | assumption | (simp; done) | (simp; omega))]; first | assumption | (simp; done) | (simp [*]; done) | (simp [*, go_sem]; done)); have pa3 : w'.cell? ⟨w.heap.size, 3, none⟩ = some (.int .i64 y) := (by rw [qc _ _ (by first | assumption | (simp; done) | (simp; omega))]; first | assumption | (simp; done) | (simp [*]; done) | (simp [*, go_sem]; done))))
  go_returns
  refine ⟨by simp, ?_⟩
  repeat' (first
    | (with_reducible exact Below.refl _ _)
    | (with_reducible assumption)
    | (with_reducible refine Below.alloc ?_ ?_ _)
    | (with_reducible refine Below.drew ?_)
    | (with_reducible refine bdrewN ?_ _)
    | (with_reducible refine Below.setCell ?_ ?_ _)
    | (with_reducible refine bthen (by assumption) ?_ ?_)
    | go_size)
end Go.Proofs.Ytmmabkmcgffnpaa
