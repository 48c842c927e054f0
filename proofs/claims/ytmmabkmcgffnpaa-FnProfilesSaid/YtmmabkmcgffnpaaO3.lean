/- The top speed of a ride, and how many of its seconds are fast. -/
import Derived.Test.YtmmabkmcgffnpaaO2
namespace Go.Proofs.Ytmmabkmcgffnpaa
open Go.ChangeShapes Go.WideShapes Go.ChangeAt Go.RowKit
set_option linter.unusedVariables false
set_option linter.unusedSimpArgs false

def topI (a c r y way : Int) : Int := rideF stTop a c r y way way.toNat 0 0 0
def fastI (q a c r y way : Int) : Int := rideF (stFast q) a c r y way way.toNat 0 0 0
def atI (q a c r y way : Int) : Int := rideF (stAt q) a c r y way way.toNat 0 0 0
set_option maxHeartbeats 1000000 in
theorem implTopSpeed_c (a c r y way : Int) (w : World) : Calls Try.prog 15 #[.agg #[.int .i64 a, .int .i64 c, .int .i64 r, .int .i64 y], .int .i64 way] w fun e w' => e = .returned (.tuple #[.int .i64 (fRide (profOk a c r y) way (topI a c r y way)).1, .int .i64 (fRide (profOk a c r y) way (topI a c r y way)).2]) ∧ Below w.heap.size w w' := by
  cases hok : profOk a c r y <;> cases hl : inB way 0 3000000
  all_goals
    go_enter Try.func15, Try.ntmps15
    go_wp2
    go_region_held3 (fun w' => w'.cell? ⟨w.heap.size, 0, none⟩ = some (.int .i64 a) ∧ w'.cell? ⟨w.heap.size, 1, none⟩ = some (.int .i64 c) ∧ w'.cell? ⟨w.heap.size, 2, none⟩ = some (.int .i64 r) ∧ w'.cell? ⟨w.heap.size, 3, none⟩ = some (.int .i64 y)) (simp [*, go_sem])
      (first
        | (go_at_call 35; go_call (isWay_v hl _); rintro e w' ⟨rfl, rfl⟩)
        | (go_at_call 33; go_call (profiled_c _ _ _ _ _ _); rintro e w' ⟨rfl, hb⟩; obtain ⟨qc, qf, qz, qs⟩ := bfacts hb; (try simp only [World.size_alloc, World.size_setCell, World.size_drew, World.heap_drewN] at qs)))
    go_wp2_with (first | (go_at_call 39; (refine (rideTop_c a c r y way 0 w'.heap.size hok hl _ ⟨by simp [*, go_sem], by simp [*, go_sem], by simp⟩ ⟨by omega, by omega⟩).mono ?_); rintro e w1 ⟨rfl, ⟨hC1, hC2, hC3⟩, hO⟩; have hB := hO.below (B := w.heap.size) (by omega) (by simp; omega)))
    go_returns
    refine ⟨by simp [fRide, hok, hl, topI], ?_⟩
    first
      | refine Below.trans ?_ hB
      | skip
    repeat' (first
      | (with_reducible exact Below.refl _ _)
      | (with_reducible assumption)
      | (with_reducible refine Below.alloc ?_ ?_ _)
      | (with_reducible refine Below.drew ?_)
      | (with_reducible refine bdrewN ?_ _)
      | (with_reducible refine Below.setCell ?_ ?_ _)
      | (with_reducible refine bthen (by assumption) ?_ ?_)
      | go_size)
theorem l09Ask_v {a c r y way : Int} {p q : Bool} (hp : profOk a c r y = p) (hw : inB way 0 3000000 = q) (b : Nat) (w : World) (h0 : w.cell? ⟨b, 0, none⟩ = some (.int .i64 a)) (h1 : w.cell? ⟨b, 1, none⟩ = some (.int .i64 c)) (h2 : w.cell? ⟨b, 2, none⟩ = some (.int .i64 r)) (h3 : w.cell? ⟨b, 3, none⟩ = some (.int .i64 y)) : Calls Try.prog 37 #[.pointer (some ⟨b, 0, none⟩), .int .i64 way] w fun e w' => e = .returned (.int .i64 (codeOf p q)) ∧ ∃ n, w' = w.drewN n := by
  subst hp
  subst hw
  exact l09Ask_c a c r y way b w h0 h1 h2 h3
theorem specTop_loop (a c r y way : Int) (hp : profOk a c r y = true) (hw : inB way 0 3000000 = true) (w : World) : Calls Try.prog 14 #[.agg #[.int .i64 a, .int .i64 c, .int .i64 r, .int .i64 y], .int .i64 way] w fun e w' => e = .returned (.tuple #[.int .i64 (topI a c r y way), .int .i64 0]) ∧ Below w.heap.size w w' := by
  obtain ⟨⟨a0, a1⟩, ⟨c0, c1⟩, ⟨r0, r1⟩, ⟨y0, y1⟩⟩ := profOk_true hp
  obtain ⟨w0, w1⟩ := inB_true hw
  go_enter Try.func14, Try.ntmps14
  go_wp2_with
    (first
      | (go_at_call 37; go_call (l09Ask_v hp hw); rintro e w' ⟨rfl, nq, rfl⟩))
  clear hp hw
  generalize hW : (w.alloc (.cells #[.int .i64 a, .int .i64 c, .int .i64 r, .int .i64 y] 26)) = W at *
  have k0 : W.cell? ⟨w.heap.size, 0, none⟩ = some (.int .i64 a) := by rw [← hW]; simp
  have k1 : W.cell? ⟨w.heap.size, 1, none⟩ = some (.int .i64 c) := by rw [← hW]; simp
  have k2 : W.cell? ⟨w.heap.size, 2, none⟩ = some (.int .i64 r) := by rw [← hW]; simp
  have k3 : W.cell? ⟨w.heap.size, 3, none⟩ = some (.int .i64 y) := by rw [← hW]; simp
  have kB : Below w.heap.size w W := by rw [← hW]; exact (Below.refl _ _).alloc (Nat.le_refl _) _
  clear hW
  go_loopw [1, 7, 8] (fun l v x wr => ∃ (n : Nat) (pl sp k : Int), 0 ≤ pl ∧ pl ≤ way ∧ 0 ≤ sp ∧ sp ≤ 15000 ∧ way - pl ≤ n ∧ 0 ≤ k ∧ k ≤ 15000 ∧ Hid (rideF stTop a c r y way n pl sp k = topI a c r y way) ∧ l = .int .i64 (way - pl) ∧ v = .int .i64 sp ∧ x = .int .i64 k ∧ ∃ n, wr = W.drewN n) (fun l _ _ _ => (intOf l).toNat)
  case atStart => exact ⟨way.toNat, 0, 0, 0, by omega, by omega, by omega, by omega, by omega, by omega, by omega, Lib.hid rfl, by simp, rfl, rfl, (by first | exact ⟨_, rfl⟩ | exact ⟨_, World.drewN_drewN _ _ _⟩ | exact ⟨0, rfl⟩)⟩
  case round =>
    obtain ⟨n, pl, sp, k, h4, h5, h6, h7, h8, h9, h10, HK, rfl, rfl, rfl, m, rfl⟩ := hrel
    by_cases hlt2 : pl < way
    · obtain ⟨n, rfl⟩ : ∃ n', n = n' + 1 := ⟨n - 1, by omega⟩
      obtain ⟨v0, v1, v2, v3, v4⟩ := nextI_bd (a := a) (c := c) (r := r) (y := y) (speed := sp) (left := way - pl) (by omega) r1 r0 (by omega)
      have hv := v3 (by omega)
      clear v3 v4
      have HN := Lib.hid (rideF_go (step := stTop) (a := a) (c := c) (r := r) (y := y) (way := way) (n := n) (pl := pl) (sp := sp) (s := k) hlt2 rfl)
      have hpos : 0 < way - pl := by omega
      go_wp2_with
        (first
          | (go_at_call 32; go_call (l09Next_c a c r y); rintro e w' ⟨rfl, nq, rfl⟩)
          | (go_at_call 38; go_call (l00Max_c _ _ _); rintro e w' ⟨rfl, rfl⟩))
      go_roundw
      case rel => exact ⟨n, pl + nextI a c r y sp (way - pl), nextI a c r y sp (way - pl), max k (nextI a c r y sp (way - pl)), by omega, by omega, by omega, by omega, by omega, by omega, by omega, Lib.hid (HN.out.symm.trans HK.out), by congr 1; omega, rfl, rfl, (by first | exact ⟨_, rfl⟩ | exact ⟨_, World.drewN_drewN _ _ _⟩ | exact ⟨0, rfl⟩)⟩
      case measure => simp [intOf]; omega
    · have HE := Lib.hid (show rideF stTop a c r y way n pl sp k = k from rideF_end hlt2)
      have hpos : ¬ 0 < way - pl := by omega
      go_wp2
      go_returns
      exact ⟨by rw [← HK.out, HE.out]; rfl, bdrewN kB _⟩
theorem specTopSpeed_c (a c r y way : Int) (w : World) : Calls Try.prog 14 #[.agg #[.int .i64 a, .int .i64 c, .int .i64 r, .int .i64 y], .int .i64 way] w fun e w' => e = .returned (.tuple #[.int .i64 (fRide (profOk a c r y) way (topI a c r y way)).1, .int .i64 (fRide (profOk a c r y) way (topI a c r y way)).2]) ∧ Below w.heap.size w w' := by
  cases hok : profOk a c r y <;> cases hl : inB way 0 3000000
  case true.true =>
    have h := specTop_loop a c r y way hok hl w
    simpa [fRide, hl] using h
  all_goals
    go_enter Try.func14, Try.ntmps14
    go_wp2_with
      (first
        | (go_at_call 37; go_call (l09Ask_v hok hl); rintro e w' ⟨rfl, nq, rfl⟩))
    go_returns
    refine ⟨by simp [fRide, hok, hl], ?_⟩
    repeat' (first
      | (with_reducible exact Below.refl _ _)
      | (with_reducible assumption)
      | (with_reducible refine Below.alloc ?_ ?_ _)
      | (with_reducible refine Below.drew ?_)
      | (with_reducible refine bdrewN ?_ _)
      | (with_reducible refine Below.setCell ?_ ?_ _)
      | (with_reducible refine bthen (by assumption) ?_ ?_)
      | go_size)
theorem walk_FnExactTopSpeed (a c r y way : Int) (w : World) (_ : I64 a) (_ : I64 c) (_ : I64 r) (_ : I64 y) (_ : I64 way) : Calls Try.prog 4 #[.agg #[.int .i64 a, .int .i64 c, .int .i64 r, .int .i64 y], .int .i64 way] w fun e w' => e = .returned (.bool true) ∧ Below w.heap.size w w' := by
  go_enter Try.func4, Try.ntmps4
  go_wp2_with
    (first
      | (go_at_call 12; go_call (toProfile_c _ _ _ _ _); rintro e w' ⟨rfl, hb⟩; obtain ⟨qc, qf, qz, qs⟩ := bfacts hb; (try simp only [World.size_alloc, World.size_setCell, World.size_drew, World.heap_drewN] at qs); have za : w.heap.size < w'.heap.size := (by omega); have pa0 : w'.cell? ⟨w.heap.size, 0, none⟩ = some (.int .i64 a) := (by rw [qc _ _ (by first | assumption | (simp; done) | (simp; omega))]; first | assumption | (simp; done) | (simp [*]; done) | (simp [*, go_sem]; done)); have pa1 : w'.cell? ⟨w.heap.size, 1, none⟩ = some (.int .i64 c) := (by rw [qc _ _ (by first | assumption | (simp; done) | (simp; omega))]; first | assumption | (simp; done) | (simp [*]; done) | (simp [*, go_sem]; done)); have pa2 : w'.cell? ⟨w.heap.size, 2, none⟩ = some (.int .i64 r) := (by rw [qc _ _ (by first | assumption | (simp; done) | (simp; omega))]; first | assumption | (simp; done) | (simp [*]; done) | (simp [*, go_sem]; done)); have pa3 : w'.cell? ⟨w.heap.size, 3, none⟩ = some (.int .i64 y) := (by rw [qc _ _ (by first | assumption | (simp; done) | (simp; omega))]; first | assumption | (simp; done) | (simp [*]; done) | (simp [*, go_sem]; done)))
      | (go_at_call 14; go_call (specTopSpeed_c _ _ _ _ _ _); rintro e w' ⟨rfl, hb⟩; obtain ⟨qc, qf, qz, qs⟩ := bfacts hb; (try simp only [World.size_alloc, World.size_setCell, World.size_drew, World.heap_drewN] at qs); have za : w.heap.size < w'.heap.size := (by omega); have pa0 : w'.cell? ⟨w.heap.size, 0, none⟩ = some (.int .i64 a) := (by rw [qc _ _ (by first | assumption | (simp; done) | (simp; omega))]; first | assumption | (simp; done) | (simp [*]; done) | (simp [*, go_sem]; done)); have pa1 : w'.cell? ⟨w.heap.size, 1, none⟩ = some (.int .i64 c) := (by rw [qc _ _ (by first | assumption | (simp; done) | (simp; omega))]; first | assumption | (simp; done) | (simp [*]; done) | (simp [*, go_sem]; done)); have pa2 : w'.cell? ⟨w.heap.size, 2, none⟩ = some (.int .i64 r) := (by rw [qc _ _ (by first | assumption | (simp; done) | (simp; omega))]; first | assumption | (simp; done) | (simp [*]; done) | (simp [*, go_sem]; done)); have pa3 : w'.cell? ⟨w.heap.size, 3, none⟩ = some (.int .i64 y) := (by rw [qc _ _ (by first | assumption | (simp; done) | (simp; omega))]; first | assumption | (simp; done) | (simp [*]; done) | (simp [*, go_sem]; done)))
      | (go_at_call 15; go_call (implTopSpeed_c _ _ _ _ _ _); rintro e w' ⟨rfl, hb⟩; obtain ⟨qc, qf, qz, qs⟩ := bfacts hb; (try simp only [World.size_alloc, World.size_setCell, World.size_drew, World.heap_drewN] at qs); have za : w.heap.size < w'.heap.size := (by omega); have pa0 : w'.cell? ⟨w.heap.size, 0, none⟩ = some (.int .i64 a) := (by rw [qc _ _ (by first | assumption | (simp; done) | (simp; omega))]; first | assumption | (simp; done) | (simp [*]; done) | (simp [*, go_sem]; done)); have pa1 : w'.cell? ⟨w.heap.size, 1, none⟩ = some (.int .i64 c) := (by rw [qc _ _ (by first | assumption | (simp; done) | (simp; omega))]; first | assumption | (simp; done) | (simp [*]; done) | (simp [*, go_sem]; done)); have pa2 : w'.cell? ⟨w.heap.size, 2, none⟩ = some (.int .i64 r) := (by rw [qc _ _ (by first | assumption | (simp; done) | (simp; omega))]; first | assumption | (simp; done) | (simp [*]; done) | (simp [*, go_sem]; done)); have pa3 : w'.cell? ⟨w.heap.size, 3, none⟩ = some (.int .i64 y) := (by rw [qc _ _ (by first | assumption | (simp; done) | (simp; omega))]; first | assumption | (simp; done) | (simp [*]; done) | (simp [*, go_sem]; done))))
  go_returns
  refine ⟨by simp, ?_⟩
  repeat' (first
    | (with_reducible exact Below.refl _ _)
    | (with_reducible assumption)
    | (with_reducible refine Below.alloc ?_ ?_ _)
    | (with_reducible refine Below.drew ?_)
    | (with_reducible refine bdrewN ?_ _)
    | (with_reducible refine Below.setCell ?_ ?_ _)
    | (with_reducible refine bthen (by assumption) ?_ ?_)
    | go_size)
end Go.Proofs.Ytmmabkmcgffnpaa
