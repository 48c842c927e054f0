/- When a place of a ride is reached. -/
import Derived.Test.YtmmabkmcgffnpaaO4
namespace Go.Proofs.Ytmmabkmcgffnpaa
open Go.ChangeShapes Go.WideShapes Go.ChangeAt Go.RowKit
set_option linter.unusedVariables false
set_option linter.unusedSimpArgs false

def secondI (q a c r y way : Int) : Int := if q = 0 then 0 else atI q a c r y way
set_option maxHeartbeats 1000000 in
theorem implSecondAt_f (a c r y way q : Int) (w : World) (hl : inB way 0 3000000 = false) : Calls Try.prog 19 #[.agg #[.int .i64 a, .int .i64 c, .int .i64 r, .int .i64 y], .int .i64 way, .int .i64 q] w fun e w' => e = .returned (.tuple #[.int .i64 (fRide2 (profOk a c r y) (inB way 0 3000000 && inB q 0 way) (secondI q a c r y way)).1, .int .i64 (fRide2 (profOk a c r y) (inB way 0 3000000 && inB q 0 way) (secondI q a c r y way)).2]) ∧ Below w.heap.size w w' := by
  cases hok : profOk a c r y
  all_goals
    go_enter Try.func19, Try.ntmps19
    go_wp2
    first | go_region_with ((first | (go_at_call 35; go_call (isWay_v hl _); rintro e w' ⟨rfl, rfl⟩) | (go_at_call 33; go_call (profiled_c _ _ _ _ _ _); rintro e w' ⟨rfl, hb⟩; obtain ⟨qc, qf, qz, qs⟩ := bfacts hb; (try simp only [World.size_alloc, World.size_setCell, World.size_drew, World.heap_drewN] at qs)))) | fail
    all_goals
      go_wp2
      go_returns
      refine ⟨by simp [fRide2, hok, hl], ?_⟩
      repeat' (first
        | (with_reducible exact Below.refl _ _)
        | (with_reducible assumption)
        | (with_reducible refine Below.alloc ?_ ?_ _)
        | (with_reducible refine Below.drew ?_)
        | (with_reducible refine bdrewN ?_ _)
        | (with_reducible refine Below.setCell ?_ ?_ _)
        | (with_reducible refine bthen (by assumption) ?_ ?_)
        | go_size)
set_option maxHeartbeats 2000000 in
theorem implSecondAt_c (a c r y way q : Int) (w : World) : Calls Try.prog 19 #[.agg #[.int .i64 a, .int .i64 c, .int .i64 r, .int .i64 y], .int .i64 way, .int .i64 q] w fun e w' => e = .returned (.tuple #[.int .i64 (fRide2 (profOk a c r y) (inB way 0 3000000 && inB q 0 way) (secondI q a c r y way)).1, .int .i64 (fRide2 (profOk a c r y) (inB way 0 3000000 && inB q 0 way) (secondI q a c r y way)).2]) ∧ Below w.heap.size w w' := by
  cases hl : inB way 0 3000000
  · have h := implSecondAt_f a c r y way q w hl
    rw [hl] at h
    exact h
  cases hok : profOk a c r y <;> cases hs : inB q 0 way
  all_goals
    go_enter Try.func19, Try.ntmps19
    go_wp2
    go_region_held3 (fun w' => w'.cell? ⟨w.heap.size, 0, none⟩ = some (.int .i64 a) ∧ w'.cell? ⟨w.heap.size, 1, none⟩ = some (.int .i64 c) ∧ w'.cell? ⟨w.heap.size, 2, none⟩ = some (.int .i64 r) ∧ w'.cell? ⟨w.heap.size, 3, none⟩ = some (.int .i64 y) ∧ w'.cell? ⟨w.heap.size + 1, 0, none⟩ = some (.int .i64 q)) (simp [*, go_sem])
      (first
        | (go_at_call 35; go_call (isWay_v hl _); rintro e w' ⟨rfl, rfl⟩)
        | (go_at_call 43; go_call (within_v hs _); rintro e w' ⟨rfl, rfl⟩)
        | (go_at_call 33; go_call (profiled_c _ _ _ _ _ _); rintro e w' ⟨rfl, hb⟩; obtain ⟨qc, qf, qz, qs⟩ := bfacts hb; (try simp only [World.size_alloc, World.size_setCell, World.size_drew, World.heap_drewN] at qs)))
    have z0 : w.heap.size < w'.heap.size := by omega
    have z1 : w.heap.size + 1 < w'.heap.size := by omega
    by_cases hq : q = 0
    all_goals
      go_wp2_with (first | (go_at_call 39; (refine (rideAt_c a c r y way 0 q (w.heap.size + 1) w'.heap.size hok hl _ ⟨by simp [*, go_sem], by simp [*, go_sem], by simp; try omega⟩ (by simp [*, go_sem]) (by simp; try omega) (by omega) ⟨by omega, by omega⟩).mono ?_); rintro e w1 ⟨rfl, ⟨hC1, hC2, hC3⟩, hO⟩; have hB := hO.below (B := w.heap.size) (by omega) (by simp; try omega)))
      go_returns
      refine ⟨by simp [fRide2, hok, hl, hs, hq, secondI, atI], ?_⟩
      first
        | refine Below.trans ?_ hB
        | skip
      repeat' (first
        | (with_reducible exact Below.refl _ _)
        | (with_reducible assumption)
        | (with_reducible refine Below.alloc ?_ ?_ _)
        | (with_reducible refine Below.drew ?_)
        | (with_reducible refine bdrewN ?_ _)
        | (with_reducible refine Below.setCell ?_ ?_ _)
        | (with_reducible refine bthen (by assumption) ?_ ?_)
        | go_size)
theorem specAt_loop (a c r y way q : Int) (hp : profOk a c r y = true) (hw : inB way 0 3000000 = true) (hs : inB q 0 way = true) (w : World) : Calls Try.prog 18 #[.agg #[.int .i64 a, .int .i64 c, .int .i64 r, .int .i64 y], .int .i64 way, .int .i64 q] w fun e w' => e = .returned (.tuple #[.int .i64 (secondI q a c r y way), .int .i64 0]) ∧ Below w.heap.size w w' := by
  obtain ⟨⟨a0, a1⟩, ⟨c0, c1⟩, ⟨r0, r1⟩, ⟨y0, y1⟩⟩ := profOk_true hp
  obtain ⟨w0, w1⟩ := inB_true hw
  obtain ⟨q0, q1⟩ := inB_true hs
  go_enter Try.func18, Try.ntmps18
  go_wp2_with
    (first
      | (go_at_call 37; go_call (l09Ask_v hp hw); rintro e w' ⟨rfl, nq, rfl⟩)
      | (go_at_call 30; go_call (l00In_v hs _); rintro e w' ⟨rfl, rfl⟩))
  clear hp hw
  generalize hW : (w.alloc (.cells #[.int .i64 a, .int .i64 c, .int .i64 r, .int .i64 y] 26)) = W at *
  have k0 : W.cell? ⟨w.heap.size, 0, none⟩ = some (.int .i64 a) := by rw [← hW]; simp
  have k1 : W.cell? ⟨w.heap.size, 1, none⟩ = some (.int .i64 c) := by rw [← hW]; simp
  have k2 : W.cell? ⟨w.heap.size, 2, none⟩ = some (.int .i64 r) := by rw [← hW]; simp
  have k3 : W.cell? ⟨w.heap.size, 3, none⟩ = some (.int .i64 y) := by rw [← hW]; simp
  have kB : Below w.heap.size w W := by rw [← hW]; exact (Below.refl _ _).alloc (Nat.le_refl _) _
  clear hW
  have H0 := Lib.hid (show (if 0 < q then rideF (stAt q) a c r y way way.toNat 0 0 0 else 0) = secondI q a c r y way from by
    unfold secondI atI
    by_cases h : q = 0
    · rw [if_pos h, if_neg (by omega)]
    · rw [if_neg h, if_pos (by omega)])
  go_loopw [9, 10, 11] (fun v l x wr => ∃ (n : Nat) (pl sp k : Int), 0 ≤ pl ∧ pl ≤ way ∧ 0 ≤ sp ∧ sp ≤ 15000 ∧ way - pl ≤ n ∧ 0 ≤ k ∧ k ≤ pl ∧ Hid ((if pl < q then rideF (stAt q) a c r y way n pl sp k else k) = secondI q a c r y way) ∧ l = .int .i64 pl ∧ v = .int .i64 sp ∧ x = .int .i64 k ∧ ∃ n, wr = W.drewN n) (fun _ l _ _ => (q - intOf l).toNat)
  case atStart => exact ⟨way.toNat, 0, 0, 0, by omega, by omega, by omega, by omega, by omega, by omega, by omega, H0, rfl, rfl, rfl, (by first | exact ⟨_, rfl⟩ | exact ⟨_, World.drewN_drewN _ _ _⟩ | exact ⟨0, rfl⟩)⟩
  case round =>
    obtain ⟨n, pl, sp, k, h4, h5, h6, h7, h8, h9, h10, HK, rfl, rfl, rfl, m, rfl⟩ := hrel
    by_cases hlt : pl < q
    · have hlt2 : pl < way := by omega
      obtain ⟨n, rfl⟩ : ∃ n', n = n' + 1 := ⟨n - 1, by omega⟩
      obtain ⟨v0, v1, v2, v3, v4⟩ := nextI_bd (a := a) (c := c) (r := r) (y := y) (speed := sp) (left := way - pl) (by omega) r1 r0 (by omega)
      have hv := v3 (by omega)
      clear v3 v4
      have HN := Lib.hid (show (if pl < q then rideF (stAt q) a c r y way (n + 1) pl sp k else k) = (if pl + nextI a c r y sp (way - pl) < q then rideF (stAt q) a c r y way n (pl + nextI a c r y sp (way - pl)) (nextI a c r y sp (way - pl)) (k + 1) else k + 1) from by
        rw [if_pos hlt, rideF, if_pos hlt2]
        simp [stAt])
      go_wp2_with
        (first
          | (go_at_call 32; go_call (l09Next_c a c r y); rintro e w' ⟨rfl, nq, rfl⟩))
      go_roundw
      case rel => exact ⟨n, pl + nextI a c r y sp (way - pl), nextI a c r y sp (way - pl), k + 1, by omega, by omega, by omega, by omega, by omega, by omega, by omega, Lib.hid (HN.out.symm.trans HK.out), rfl, rfl, rfl, (by first | exact ⟨_, rfl⟩ | exact ⟨_, World.drewN_drewN _ _ _⟩ | exact ⟨0, rfl⟩)⟩
      case measure => simp [intOf]; omega
    · have HE := Lib.hid (show (if pl < q then rideF (stAt q) a c r y way n pl sp k else k) = k from if_neg hlt)
      go_wp2
      go_returns
      exact ⟨by rw [← HK.out, HE.out]; rfl, bdrewN kB _⟩
theorem specSecondAt_c (a c r y way q : Int) (w : World) : Calls Try.prog 18 #[.agg #[.int .i64 a, .int .i64 c, .int .i64 r, .int .i64 y], .int .i64 way, .int .i64 q] w fun e w' => e = .returned (.tuple #[.int .i64 (fRide2 (profOk a c r y) (inB way 0 3000000 && inB q 0 way) (secondI q a c r y way)).1, .int .i64 (fRide2 (profOk a c r y) (inB way 0 3000000 && inB q 0 way) (secondI q a c r y way)).2]) ∧ Below w.heap.size w w' := by
  cases hok : profOk a c r y <;> cases hl : inB way 0 3000000 <;> cases hs : inB q 0 way
  case true.true.true =>
    have h := specAt_loop a c r y way q hok hl hs w
    simpa [fRide2] using h
  all_goals
    go_enter Try.func18, Try.ntmps18
    go_wp2_with
      (first
        | (go_at_call 37; go_call (l09Ask_v hok hl); rintro e w' ⟨rfl, nq, rfl⟩)
        | (go_at_call 30; go_call (l00In_v hs _); rintro e w' ⟨rfl, rfl⟩))
    go_returns
    refine ⟨by simp [fRide2], ?_⟩
    repeat' (first
      | (with_reducible exact Below.refl _ _)
      | (with_reducible assumption)
      | (with_reducible refine Below.alloc ?_ ?_ _)
      | (with_reducible refine Below.drew ?_)
      | (with_reducible refine bdrewN ?_ _)
      | (with_reducible refine Below.setCell ?_ ?_ _)
      | (with_reducible refine bthen (by assumption) ?_ ?_)
      | go_size)
theorem walk_FnExactSecondAt (a c r y way q : Int) (w : World) (_ : I64 a) (_ : I64 c) (_ : I64 r) (_ : I64 y) (_ : I64 way) (_ : I64 q) : Calls Try.prog 6 #[.agg #[.int .i64 a, .int .i64 c, .int .i64 r, .int .i64 y], .int .i64 way, .int .i64 q] w fun e w' => e = .returned (.bool true) ∧ Below w.heap.size w w' := by
  go_enter Try.func6, Try.ntmps6
  go_wp2_with
    (first
      | (go_at_call 12; go_call (toProfile_c _ _ _ _ _); rintro e w' ⟨rfl, hb⟩; obtain ⟨qc, qf, qz, qs⟩ := bfacts hb; (try simp only [World.size_alloc, World.size_setCell, World.size_drew, World.heap_drewN] at qs); have za : w.heap.size < w'.heap.size := (by omega); have pa0 : w'.cell? ⟨w.heap.size, 0, none⟩ = some (.int .i64 a) := (by rw [qc _ _ (by first | assumption | (simp; done) | (simp; omega))]; first | assumption | (simp; done) | (simp [*]; done) | (simp [*, go_sem]; done)); have pa1 : w'.cell? ⟨w.heap.size, 1, none⟩ = some (.int .i64 c) := (by rw [qc _ _ (by first | assumption | (simp; done) | (simp; omega))]; first | assumption | (simp; done) | (simp [*]; done) | (simp [*, go_sem]; done)); have pa2 : w'.cell? ⟨w.heap.size, 2, none⟩ = some (.int .i64 r) := (by rw [qc _ _ (by first | assumption | (simp; done) | (simp; omega))]; first | assumption | (simp; done) | (simp [*]; done) | (simp [*, go_sem]; done)); have pa3 : w'.cell? ⟨w.heap.size, 3, none⟩ = some (.int .i64 y) := (by rw [qc _ _ (by first | assumption | (simp; done) | (simp; omega))]; first | assumption | (simp; done) | (simp [*]; done) | (simp [*, go_sem]; done)))
      | (go_at_call 18; go_call (specSecondAt_c _ _ _ _ _ _ _); rintro e w' ⟨rfl, hb⟩; obtain ⟨qc, qf, qz, qs⟩ := bfacts hb; (try simp only [World.size_alloc, World.size_setCell, World.size_drew, World.heap_drewN] at qs); have za : w.heap.size < w'.heap.size := (by omega); have pa0 : w'.cell? ⟨w.heap.size, 0, none⟩ = some (.int .i64 a) := (by rw [qc _ _ (by first | assumption | (simp; done) | (simp; omega))]; first | assumption | (simp; done) | (simp [*]; done) | (simp [*, go_sem]; done)); have pa1 : w'.cell? ⟨w.heap.size, 1, none⟩ = some (.int .i64 c) := (by rw [qc _ _ (by first | assumption | (simp; done) | (simp; omega))]; first | assumption | (simp; done) | (simp [*]; done) | (simp [*, go_sem]; done)); have pa2 : w'.cell? ⟨w.heap.size, 2, none⟩ = some (.int .i64 r) := (by rw [qc _ _ (by first | assumption | (simp; done) | (simp; omega))]; first | assumption | (simp; done) | (simp [*]; done) | (simp [*, go_sem]; done)); have pa3 : w'.cell? ⟨w.heap.size, 3, none⟩ = some (.int .i64 y) := (by rw [qc _ _ (by first | assumption | (simp; done) | (simp; omega))]; first | assumption | (simp; done) | (simp [*]; done) | (simp [*, go_sem]; done)))
      | (go_at_call 19; go_call (implSecondAt_c _ _ _ _ _ _ _); rintro e w' ⟨rfl, hb⟩; obtain ⟨qc, qf, qz, qs⟩ := bfacts hb; (try simp only [World.size_alloc, World.size_setCell, World.size_drew, World.heap_drewN] at qs); have za : w.heap.size < w'.heap.size := (by omega); have pa0 : w'.cell? ⟨w.heap.size, 0, none⟩ = some (.int .i64 a) := (by rw [qc _ _ (by first | assumption | (simp; done) | (simp; omega))]; first | assumption | (simp; done) | (simp [*]; done) | (simp [*, go_sem]; done)); have pa1 : w'.cell? ⟨w.heap.size, 1, none⟩ = some (.int .i64 c) := (by rw [qc _ _ (by first | assumption | (simp; done) | (simp; omega))]; first | assumption | (simp; done) | (simp [*]; done) | (simp [*, go_sem]; done)); have pa2 : w'.cell? ⟨w.heap.size, 2, none⟩ = some (.int .i64 r) := (by rw [qc _ _ (by first | assumption | (simp; done) | (simp; omega))]; first | assumption | (simp; done) | (simp [*]; done) | (simp [*, go_sem]; done)); have pa3 : w'.cell? ⟨w.heap.size, 3, none⟩ = some (.int .i64 y) := (by rw [qc _ _ (by first | assumption | (simp; done) | (simp; omega))]; first | assumption | (simp; done) | (simp [*]; done) | (simp [*, go_sem]; done))))
  go_returns
  refine ⟨by simp, ?_⟩
  repeat' (first
    | (with_reducible exact Below.refl _ _)
    | (with_reducible assumption)
    | (with_reducible refine Below.alloc ?_ ?_ _)
    | (with_reducible refine Below.drew ?_)
    | (with_reducible refine bdrewN ?_ _)
    | (with_reducible refine Below.setCell ?_ ?_ _)
    | (with_reducible refine bthen (by assumption) ?_ ?_)
    | go_size)
end Go.Proofs.Ytmmabkmcgffnpaa
