/- How long a ride takes. -/
import Derived.Test.YtmmabkmcgffnpaaO
namespace Go.Proofs.Ytmmabkmcgffnpaa
open Go.ChangeShapes Go.WideShapes Go.ChangeAt Go.RowKit
set_option linter.unusedVariables false
set_option linter.unusedSimpArgs false

def fRide (ok : Bool) (way v : Int) : Int × Int := if ok then (if inB way 0 3000000 then (v, 0) else (0, 2)) else (0, 1)
theorem rideTimeI_c (a c r y way : Int) (hp : profOk a c r y = true) (hw : inB way 0 3000000 = true) (w : World) : Calls Try.prog 42 #[.agg #[.int .i64 a, .int .i64 c, .int .i64 r, .int .i64 y], .int .i64 way] w fun e w' => e = .returned (.int .i64 (timeI a c r y way)) ∧ Below w.heap.size w w' := by
  go_enter Try.func42, Try.ntmps42
  go_wp2_with (first | (go_at_call 39; (refine (rideTime_c a c r y way 0 (w.heap.size + 1) hp hw _ ⟨by simp [*, go_sem], by simp [*, go_sem], by simp⟩ ⟨by omega, by omega⟩).mono ?_); rintro e w1 ⟨rfl, ⟨hC1, hC2, hC3⟩, hO⟩))
  go_returns
  refine ⟨rfl, ?_⟩
  refine Below.trans ?_ (hO.below (B := w.heap.size) (by omega) (by simp; omega))
  repeat' (first
    | (with_reducible exact Below.refl _ _)
    | (with_reducible assumption)
    | (with_reducible refine Below.alloc ?_ ?_ _)
    | (with_reducible refine Below.drew ?_)
    | (with_reducible refine bdrewN ?_ _)
    | (with_reducible refine Below.setCell ?_ ?_ _)
    | (with_reducible refine bthen (by assumption) ?_ ?_)
    | go_size)
theorem l09Ask_c (a c r y way : Int) (b : Nat) (w : World) (h0 : w.cell? ⟨b, 0, none⟩ = some (.int .i64 a)) (h1 : w.cell? ⟨b, 1, none⟩ = some (.int .i64 c)) (h2 : w.cell? ⟨b, 2, none⟩ = some (.int .i64 r)) (h3 : w.cell? ⟨b, 3, none⟩ = some (.int .i64 y)) : Calls Try.prog 37 #[.pointer (some ⟨b, 0, none⟩), .int .i64 way] w fun e w' => e = .returned (.int .i64 (codeOf (profOk a c r y) (inB way 0 3000000))) ∧ ∃ n, w' = w.drewN n := by
  cases hok : profOk a c r y <;> cases hl : inB way 0 3000000
  all_goals
    go_enter Try.func37, Try.ntmps37
    go_wp2_with
      (first
        | (go_at_call 29; go_call (l09Ok_c a c r y); rintro e w' ⟨rfl, nq, rfl⟩)
        | (go_at_call 31; go_call (l09Way_c _ _); rintro e w' ⟨rfl, rfl⟩))
    go_ret
    exact ⟨rfl, (by first | exact ⟨_, rfl⟩ | exact ⟨_, World.drewN_drewN _ _ _⟩ | exact ⟨0, rfl⟩)⟩
theorem l09Time_c (a c r y way : Int) (hp : profOk a c r y = true) (hw : inB way 0 3000000 = true) (b : Nat) (w : World) (h0 : w.cell? ⟨b, 0, none⟩ = some (.int .i64 a)) (h1 : w.cell? ⟨b, 1, none⟩ = some (.int .i64 c)) (h2 : w.cell? ⟨b, 2, none⟩ = some (.int .i64 r)) (h3 : w.cell? ⟨b, 3, none⟩ = some (.int .i64 y)) : Calls Try.prog 41 #[.pointer (some ⟨b, 0, none⟩), .int .i64 way] w fun e w' => e = .returned (.int .i64 (timeI a c r y way)) ∧ ∃ n, w' = w.drewN n := by
  obtain ⟨⟨a0, a1⟩, ⟨c0, c1⟩, ⟨r0, r1⟩, ⟨y0, y1⟩⟩ := profOk_true hp
  obtain ⟨w0, w1⟩ := inB_true hw
  clear hp hw
  go_enter Try.func41, Try.ntmps41
  go_wp2
  go_loopw [1, 5, 6] (fun l v x wr => ∃ (n : Nat) (pl sp k : Int), 0 ≤ pl ∧ pl ≤ way ∧ 0 ≤ sp ∧ sp ≤ 15000 ∧ way - pl ≤ n ∧ 0 ≤ k ∧ k ≤ pl ∧ Hid (rideF stTime a c r y way n pl sp k = timeI a c r y way) ∧ l = .int .i64 (way - pl) ∧ v = .int .i64 sp ∧ x = .int .i64 k ∧ ∃ n, wr = w.drewN n) (fun l _ _ _ => (intOf l).toNat)
  case atStart => exact ⟨way.toNat, 0, 0, 0, by omega, by omega, by omega, by omega, by omega, by omega, by omega, Lib.hid rfl, by simp, rfl, rfl, (by first | exact ⟨_, rfl⟩ | exact ⟨_, World.drewN_drewN _ _ _⟩ | exact ⟨0, rfl⟩)⟩
  case round =>
    obtain ⟨n, pl, sp, k, h4, h5, h6, h7, h8, h9, h10, HK, rfl, rfl, rfl, m, rfl⟩ := hrel
    by_cases hlt2 : pl < way
    · obtain ⟨n, rfl⟩ : ∃ n', n = n' + 1 := ⟨n - 1, by omega⟩
      obtain ⟨v0, v1, v2, v3, v4⟩ := nextI_bd (a := a) (c := c) (r := r) (y := y) (speed := sp) (left := way - pl) (by omega) r1 r0 (by omega)
      have hv := v3 (by omega)
      clear v3 v4
      have HN := Lib.hid (rideF_go (step := stTime) (a := a) (c := c) (r := r) (y := y) (way := way) (n := n) (pl := pl) (sp := sp) (s := k) hlt2 rfl)
      have hpos : 0 < way - pl := by omega
      go_wp2_with
        (first
          | (go_at_call 32; go_call (l09Next_c a c r y); rintro e w' ⟨rfl, nq, rfl⟩))
      go_roundw
      case rel => exact ⟨n, pl + nextI a c r y sp (way - pl), nextI a c r y sp (way - pl), k + 1, by omega, by omega, by omega, by omega, by omega, by omega, by omega, Lib.hid (HN.out.symm.trans HK.out), by congr 1; omega, rfl, rfl, (by first | exact ⟨_, rfl⟩ | exact ⟨_, World.drewN_drewN _ _ _⟩ | exact ⟨0, rfl⟩)⟩
      case measure => simp [intOf]; omega
    · have HE := Lib.hid (show rideF stTime a c r y way n pl sp k = k from rideF_end hlt2)
      have hpos : ¬ 0 < way - pl := by omega
      go_wp2
      go_ret
      exact ⟨by rw [← HK.out, HE.out]; rfl, (by first | exact ⟨_, rfl⟩ | exact ⟨_, World.drewN_drewN _ _ _⟩ | exact ⟨0, rfl⟩)⟩
set_option maxHeartbeats 1000000 in
theorem implRideTime_c (a c r y way : Int) (w : World) : Calls Try.prog 17 #[.agg #[.int .i64 a, .int .i64 c, .int .i64 r, .int .i64 y], .int .i64 way] w fun e w' => e = .returned (.tuple #[.int .i64 (fRide (profOk a c r y) way (timeI a c r y way)).1, .int .i64 (fRide (profOk a c r y) way (timeI a c r y way)).2]) ∧ Below w.heap.size w w' := by
  cases hok : profOk a c r y <;> cases hl : inB way 0 3000000
  all_goals
    go_enter Try.func17, Try.ntmps17
    go_wp2
    go_region_held3 (fun w' => w'.cell? ⟨w.heap.size, 0, none⟩ = some (.int .i64 a) ∧ w'.cell? ⟨w.heap.size, 1, none⟩ = some (.int .i64 c) ∧ w'.cell? ⟨w.heap.size, 2, none⟩ = some (.int .i64 r) ∧ w'.cell? ⟨w.heap.size, 3, none⟩ = some (.int .i64 y)) (simp [*, go_sem])
      (first
        | (go_at_call 35; go_call (isWay_v hl _); rintro e w' ⟨rfl, rfl⟩)
        | (go_at_call 33; go_call (profiled_c _ _ _ _ _ _); rintro e w' ⟨rfl, hb⟩; obtain ⟨qc, qf, qz, qs⟩ := bfacts hb; (try simp only [World.size_alloc, World.size_setCell, World.size_drew, World.heap_drewN] at qs)))
    go_wp2_with
      (first
        | (go_at_call 42; go_call (rideTimeI_c a c r y way hok hl _); rintro e w' ⟨rfl, hb⟩; obtain ⟨qc, qf, qz, qs⟩ := bfacts hb; (try simp only [World.size_alloc, World.size_setCell, World.size_drew, World.heap_drewN] at qs); have za : w.heap.size < w'.heap.size := (by omega); have pa0 : w'.cell? ⟨w.heap.size, 0, none⟩ = some (.int .i64 a) := (by rw [qc _ _ (by first | assumption | (simp; done) | (simp; omega))]; first | assumption | (simp; done) | (simp [*]; done) | (simp [*, go_sem]; done)); have pa1 : w'.cell? ⟨w.heap.size, 1, none⟩ = some (.int .i64 c) := (by rw [qc _ _ (by first | assumption | (simp; done) | (simp; omega))]; first | assumption | (simp; done) | (simp [*]; done) | (simp [*, go_sem]; done)); have pa2 : w'.cell? ⟨w.heap.size, 2, none⟩ = some (.int .i64 r) := (by rw [qc _ _ (by first | assumption | (simp; done) | (simp; omega))]; first | assumption | (simp; done) | (simp [*]; done) | (simp [*, go_sem]; done)); have pa3 : w'.cell? ⟨w.heap.size, 3, none⟩ = some (.int .i64 y) := (by rw [qc _ _ (by first | assumption | (simp; done) | (simp; omega))]; first | assumption | (simp; done) | (simp [*]; done) | (simp [*, go_sem]; done))))
    go_returns
    refine ⟨by simp [fRide, hok, hl], ?_⟩
    repeat' (first
      | (with_reducible exact Below.refl _ _)
      | (with_reducible assumption)
      | (with_reducible refine Below.alloc ?_ ?_ _)
      | (with_reducible refine Below.drew ?_)
      | (with_reducible refine bdrewN ?_ _)
      | (with_reducible refine Below.setCell ?_ ?_ _)
      | (with_reducible refine bthen (by assumption) ?_ ?_)
      | go_size)
set_option maxHeartbeats 1000000 in
theorem specRideTime_c (a c r y way : Int) (w : World) : Calls Try.prog 16 #[.agg #[.int .i64 a, .int .i64 c, .int .i64 r, .int .i64 y], .int .i64 way] w fun e w' => e = .returned (.tuple #[.int .i64 (fRide (profOk a c r y) way (timeI a c r y way)).1, .int .i64 (fRide (profOk a c r y) way (timeI a c r y way)).2]) ∧ Below w.heap.size w w' := by
  cases hok : profOk a c r y <;> cases hl : inB way 0 3000000
  all_goals
    go_enter Try.func16, Try.ntmps16
    go_wp2_with
      (first
        | (go_at_call 37; go_call (l09Ask_c a c r y); rintro e w' ⟨rfl, nq, rfl⟩)
        | (go_at_call 41; go_call (l09Time_c a c r y way hok hl); rintro e w' ⟨rfl, nq, rfl⟩))
    go_returns
    refine ⟨by simp [fRide, hok, hl], ?_⟩
    repeat' (first
      | (with_reducible exact Below.refl _ _)
      | (with_reducible assumption)
      | (with_reducible refine Below.alloc ?_ ?_ _)
      | (with_reducible refine Below.drew ?_)
      | (with_reducible refine bdrewN ?_ _)
      | (with_reducible refine Below.setCell ?_ ?_ _)
      | (with_reducible refine bthen (by assumption) ?_ ?_)
      | go_size)
theorem walk_FnExactRideTime (a c r y way : Int) (w : World) (_ : I64 a) (_ : I64 c) (_ : I64 r) (_ : I64 y) (_ : I64 way) : Calls Try.prog 5 #[.agg #[.int .i64 a, .int .i64 c, .int .i64 r, .int .i64 y], .int .i64 way] w fun e w' => e = .returned (.bool true) ∧ Below w.heap.size w w' := by
  go_enter Try.func5, Try.ntmps5
  go_wp2_with
    (first
      | (go_at_call 12; go_call (toProfile_c _ _ _ _ _); rintro e w' ⟨rfl, hb⟩; obtain ⟨qc, qf, qz, qs⟩ := bfacts hb; (try simp only [World.size_alloc, World.size_setCell, World.size_drew, World.heap_drewN] at qs); have za : w.heap.size < w'.heap.size := (by omega); have pa0 : w'.cell? ⟨w.heap.size, 0, none⟩ = some (.int .i64 a) := (by rw [qc _ _ (by first | assumption | (simp; done) | (simp; omega))]; first | assumption | (simp; done) | (simp [*]; done) | (simp [*, go_sem]; done)); have pa1 : w'.cell? ⟨w.heap.size, 1, none⟩ = some (.int .i64 c) := (by rw [qc _ _ (by first | assumption | (simp; done) | (simp; omega))]; first | assumption | (simp; done) | (simp [*]; done) | (simp [*, go_sem]; done)); have pa2 : w'.cell? ⟨w.heap.size, 2, none⟩ = some (.int .i64 r) := (by rw [qc _ _ (by first | assumption | (simp; done) | (simp; omega))]; first | assumption | (simp; done) | (simp [*]; done) | (simp [*, go_sem]; done)); have pa3 : w'.cell? ⟨w.heap.size, 3, none⟩ = some (.int .i64 y) := (by rw [qc _ _ (by first | assumption | (simp; done) | (simp; omega))]; first | assumption | (simp; done) | (simp [*]; done) | (simp [*, go_sem]; done)))
      | (go_at_call 16; go_call (specRideTime_c _ _ _ _ _ _); rintro e w' ⟨rfl, hb⟩; obtain ⟨qc, qf, qz, qs⟩ := bfacts hb; (try simp only [World.size_alloc, World.size_setCell, World.size_drew, World.heap_drewN] at qs); have za : w.heap.size < w'.heap.size := (by omega); have pa0 : w'.cell? ⟨w.heap.size, 0, none⟩ = some (.int .i64 a) := (by rw [qc _ _ (by first | assumption | (simp; done) | (simp; omega))]; first | assumption | (simp; done) | (simp [*]; done) | (simp [*, go_sem]; done)); have pa1 : w'.cell? ⟨w.heap.size, 1, none⟩ = some (.int .i64 c) := (by rw [qc _ _ (by first | assumption | (simp; done) | (simp; omega))]; first | assumption | (simp; done) | (simp [*]; done) | (simp [*, go_sem]; done)); have pa2 : w'.cell? ⟨w.heap.size, 2, none⟩ = some (.int .i64 r) := (by rw [qc _ _ (by first | assumption | (simp; done) | (simp; omega))]; first | assumption | (simp; done) | (simp [*]; done) | (simp [*, go_sem]; done)); have pa3 : w'.cell? ⟨w.heap.size, 3, none⟩ = some (.int .i64 y) := (by rw [qc _ _ (by first | assumption | (simp; done) | (simp; omega))]; first | assumption | (simp; done) | (simp [*]; done) | (simp [*, go_sem]; done)))
      | (go_at_call 17; go_call (implRideTime_c _ _ _ _ _ _); rintro e w' ⟨rfl, hb⟩; obtain ⟨qc, qf, qz, qs⟩ := bfacts hb; (try simp only [World.size_alloc, World.size_setCell, World.size_drew, World.heap_drewN] at qs); have za : w.heap.size < w'.heap.size := (by omega); have pa0 : w'.cell? ⟨w.heap.size, 0, none⟩ = some (.int .i64 a) := (by rw [qc _ _ (by first | assumption | (simp; done) | (simp; omega))]; first | assumption | (simp; done) | (simp [*]; done) | (simp [*, go_sem]; done)); have pa1 : w'.cell? ⟨w.heap.size, 1, none⟩ = some (.int .i64 c) := (by rw [qc _ _ (by first | assumption | (simp; done) | (simp; omega))]; first | assumption | (simp; done) | (simp [*]; done) | (simp [*, go_sem]; done)); have pa2 : w'.cell? ⟨w.heap.size, 2, none⟩ = some (.int .i64 r) := (by rw [qc _ _ (by first | assumption | (simp; done) | (simp; omega))]; first | assumption | (simp; done) | (simp [*]; done) | (simp [*, go_sem]; done)); have pa3 : w'.cell? ⟨w.heap.size, 3, none⟩ = some (.int .i64 y) := (by rw [qc _ _ (by first | assumption | (simp; done) | (simp; omega))]; first | assumption | (simp; done) | (simp [*]; done) | (simp [*, go_sem]; done))))
  go_returns
  refine ⟨by simp, ?_⟩
  repeat' (first
    | (with_reducible exact Below.refl _ _)
    | (with_reducible assumption)
    | (with_reducible refine Below.alloc ?_ ?_ _)
    | (with_reducible refine Below.drew ?_)
    | (with_reducible refine bdrewN ?_ _)
    | (with_reducible refine Below.setCell ?_ ?_ _)
    | (with_reducible refine bthen (by assumption) ?_ ?_)
    | go_size)
end Go.Proofs.Ytmmabkmcgffnpaa
