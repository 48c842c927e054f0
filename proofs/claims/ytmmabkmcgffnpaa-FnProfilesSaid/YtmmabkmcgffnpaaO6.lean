/- The least cruising speed with which a ride takes at most some seconds. -/
import Derived.Test.YtmmabkmcgffnpaaO4
namespace Go.Proofs.Ytmmabkmcgffnpaa
open Go.ChangeShapes Go.WideShapes Go.ChangeAt Go.RowKit
set_option linter.unusedVariables false
set_option linter.unusedSimpArgs false

/-- The first cruising speed from c on, n of them in hundreds, that is fast enough. -/
def leastC (a r y way secs : Int) : Nat → Int → Int × Int
  | 0, _ => (0, 3)
  | n + 1, c => if 15000 < c then (0, 3) else if timeI a c r y way ≤ secs then (c, 0) else leastC a r y way secs n (c + 100)
section
variable {a r y way secs : Int} {n : Nat} {c : Int}
theorem leastC_end (h : 15000 < c) : leastC a r y way secs n c = (0, 3) := by
  cases n with
  | zero => rfl
  | succ n => rw [leastC, if_pos h]
theorem leastC_hit (h : ¬ 15000 < c) (k : timeI a c r y way ≤ secs) : leastC a r y way secs (n + 1) c = (c, 0) := by
  rw [leastC, if_neg h, if_pos k]
theorem leastC_on (h : ¬ 15000 < c) (k : ¬ timeI a c r y way ≤ secs) : leastC a r y way secs (n + 1) c = leastC a r y way secs n (c + 100) := by
  rw [leastC, if_neg h, if_neg k]
end
def leastI (a r y way secs : Int) : Int × Int := leastC a r y way secs 200 ((r + 99) / 100 * 100)
def fLeast (a c r y way secs : Int) : Int × Int := if profOk a c r y then (if inB way 0 3000000 && inB secs 0 3000000 then leastI a r y way secs else (0, 2)) else (0, 1)
theorem profOk_with {a c r y d : Int} (h : profOk a c r y = true) (k : r ≤ d) (l : d ≤ 15000) : profOk a d r y = true := by
  obtain ⟨⟨a0, a1⟩, ⟨c0, c1⟩, ⟨r0, r1⟩, ⟨y0, y1⟩⟩ := profOk_true h
  simp [profOk, inB]
  omega
/-- A profile in a block of its own, whose cruising speed may be written. -/
structure ProfAt (b : Nat) (a d r y : Int) (w : World) : Prop where
  c0 : w.cell? ⟨b, 0, none⟩ = some (.int .i64 a)
  c1 : w.cell? ⟨b, 1, none⟩ = some (.int .i64 d)
  c2 : w.cell? ⟨b, 2, none⟩ = some (.int .i64 r)
  c3 : w.cell? ⟨b, 3, none⟩ = some (.int .i64 y)
  fz : w.frozen? ⟨b, 1, none⟩ = false
  lt : b < w.heap.size
theorem ProfAt.below {b : Nat} {a d r y : Int} {w w' : World} (h : ProfAt b a d r y w) (hb : Below w.heap.size w w') : ProfAt b a d r y w' :=
  ⟨(hb.cell (p := ⟨b, 0, none⟩) h.lt).trans h.c0, (hb.cell (p := ⟨b, 1, none⟩) h.lt).trans h.c1, (hb.cell (p := ⟨b, 2, none⟩) h.lt).trans h.c2, (hb.cell (p := ⟨b, 3, none⟩) h.lt).trans h.c3, (hb.frozen (p := ⟨b, 1, none⟩) h.lt).trans h.fz, Nat.lt_of_lt_of_le h.lt hb.size⟩
theorem ProfAt.new (w : World) (t : TypeId) (a d r y : Int) {b : Nat} (hb : b = w.heap.size) : ProfAt b a d r y (w.alloc (.cells #[.int .i64 a, .int .i64 d, .int .i64 r, .int .i64 y] t)) := by
  subst hb
  exact ⟨by simp, by simp, by simp, by simp, by simp, by simp⟩
theorem ProfAt.set {b : Nat} {a d r y : Int} {w : World} (h : ProfAt b a d r y w) (e : Int) : ProfAt b a e r y (w.setCell ⟨b, 1, none⟩ (.int .i64 e)) := by
  obtain ⟨h0, h1, h2, h3, h4, h5⟩ := h
  exact ⟨by simp [*, go_sem], by simp [*, go_sem], by simp [*, go_sem], by simp [*, go_sem], by simp [*, go_sem], by simp [*, go_sem]⟩
set_option maxHeartbeats 1000000 in
theorem implLeastCruise_f (a c r y way secs : Int) (w : World) (hl : inB way 0 3000000 = false) : Calls Try.prog 25 #[.agg #[.int .i64 a, .int .i64 c, .int .i64 r, .int .i64 y], .int .i64 way, .int .i64 secs] w fun e w' => e = .returned (.tuple #[.int .i64 (fLeast a c r y way secs).1, .int .i64 (fLeast a c r y way secs).2]) ∧ Below w.heap.size w w' := by
  cases hok : profOk a c r y
  all_goals
    go_enter Try.func25, Try.ntmps25
    go_wp2
    first | go_region_with ((first | (go_at_call 35; go_call (isWay_v hl _); rintro e w' ⟨rfl, rfl⟩) | (go_at_call 33; go_call (profiled_c _ _ _ _ _ _); rintro e w' ⟨rfl, hb⟩; obtain ⟨qc, qf, qz, qs⟩ := bfacts hb; (try simp only [World.size_alloc, World.size_setCell, World.size_drew, World.heap_drewN] at qs)))) | fail
    all_goals
      go_wp2
      go_returns
      refine ⟨by simp [fLeast, hok, hl], ?_⟩
      repeat' (first
        | (with_reducible exact Below.refl _ _)
        | (with_reducible assumption)
        | (with_reducible refine Below.alloc ?_ ?_ _)
        | (with_reducible refine Below.drew ?_)
        | (with_reducible refine bdrewN ?_ _)
        | (with_reducible refine Below.setCell ?_ ?_ _)
        | (with_reducible refine bthen (by assumption) ?_ ?_)
        | go_size)
set_option maxHeartbeats 1000000 in
theorem implLeastCruise_b (a c r y way secs : Int) (w : World) (hl : inB way 0 3000000 = true) (hb : (profOk a c r y && inB secs 0 3000000) = false) : Calls Try.prog 25 #[.agg #[.int .i64 a, .int .i64 c, .int .i64 r, .int .i64 y], .int .i64 way, .int .i64 secs] w fun e w' => e = .returned (.tuple #[.int .i64 (fLeast a c r y way secs).1, .int .i64 (fLeast a c r y way secs).2]) ∧ Below w.heap.size w w' := by
  cases hok : profOk a c r y <;> cases hs : inB secs 0 3000000
  case true.true => simp [hok, hs] at hb
  all_goals
    clear hb
    go_enter Try.func25, Try.ntmps25
    go_wp2
    go_region_held3 (fun w' => w'.cell? ⟨w.heap.size, 0, none⟩ = some (.int .i64 a) ∧ w'.cell? ⟨w.heap.size, 1, none⟩ = some (.int .i64 c) ∧ w'.cell? ⟨w.heap.size, 2, none⟩ = some (.int .i64 r) ∧ w'.cell? ⟨w.heap.size, 3, none⟩ = some (.int .i64 y)) (simp [*, go_sem])
      (first
        | (go_at_call 35; go_call (isWay_v hl _); rintro e w' ⟨rfl, rfl⟩)
        | (go_at_call 35; go_call (isWay_v hs _); rintro e w' ⟨rfl, rfl⟩)
        | (go_at_call 33; go_call (profiled_c _ _ _ _ _ _); rintro e w' ⟨rfl, hb⟩; obtain ⟨qc, qf, qz, qs⟩ := bfacts hb; (try simp only [World.size_alloc, World.size_setCell, World.size_drew, World.heap_drewN] at qs)))
    go_wp2
    go_returns
    refine ⟨by simp [fLeast, hok, hl, hs], ?_⟩
    repeat' (first
      | (with_reducible exact Below.refl _ _)
      | (with_reducible assumption)
      | (with_reducible refine Below.alloc ?_ ?_ _)
      | (with_reducible refine Below.drew ?_)
      | (with_reducible refine bdrewN ?_ _)
      | (with_reducible refine Below.setCell ?_ ?_ _)
      | (with_reducible refine bthen (by assumption) ?_ ?_)
      | go_size)
set_option maxHeartbeats 1000000 in
theorem implLeastCruise_t (a c r y way secs : Int) (w : World) (hl : inB way 0 3000000 = true) (hok : profOk a c r y = true) (hs : inB secs 0 3000000 = true) : Calls Try.prog 25 #[.agg #[.int .i64 a, .int .i64 c, .int .i64 r, .int .i64 y], .int .i64 way, .int .i64 secs] w fun e w' => e = .returned (.tuple #[.int .i64 (leastI a r y way secs).1, .int .i64 (leastI a r y way secs).2]) ∧ Below w.heap.size w w' := by
  obtain ⟨⟨a0, a1⟩, ⟨c0, c1⟩, ⟨r0, r1⟩, ⟨y0, y1⟩⟩ := profOk_true hok
  obtain ⟨s0, s1⟩ := inB_true hs
  have HP := Lib.hid (show ∀ d, r ≤ d → d ≤ 15000 → profOk a d r y = true from fun d h1 h2 => profOk_with hok h1 h2)
  have HI := Lib.hid (show leastC a r y way secs 200 (100 * ceilD r 100) = leastI a r y way secs from by
    unfold leastI ceilD
    congr 1
    omega)
  have q0 : r ≤ 100 * ceilD r 100 := by unfold ceilD; omega
  have q1 : 100 * ceilD r 100 ≤ 15000 := by unfold ceilD; omega
  go_enter Try.func25, Try.ntmps25
  go_wp2
  go_region_held3 (fun w' => w'.cell? ⟨w.heap.size, 0, none⟩ = some (.int .i64 a) ∧ w'.cell? ⟨w.heap.size, 1, none⟩ = some (.int .i64 c) ∧ w'.cell? ⟨w.heap.size, 2, none⟩ = some (.int .i64 r) ∧ w'.cell? ⟨w.heap.size, 3, none⟩ = some (.int .i64 y) ∧ w'.frozen? ⟨w.heap.size, 1, none⟩ = false ∧ w.heap.size < w'.heap.size) (simp [*, go_sem])
    (first
      | (go_at_call 35; go_call (isWay_v hl _); rintro e w' ⟨rfl, rfl⟩)
      | (go_at_call 35; go_call (isWay_v hs _); rintro e w' ⟨rfl, rfl⟩)
      | (go_at_call 33; go_call (profiled_c _ _ _ _ _ _); rintro e w' ⟨rfl, hb⟩; obtain ⟨qc, qf, qz, qs⟩ := bfacts hb; (try simp only [World.size_alloc, World.size_setCell, World.size_drew, World.heap_drewN] at qs)))
  have HL := Lib.hid hl
  clear hok hs hl
  go_wp2_with
    (first
      | (go_at_call 48; go_call (ceilDiv_c); rintro e w' ⟨rfl, rfl⟩))
  have hP0 : ProfAt w.heap.size a c r y w' := ⟨by simp [*], by simp [*], by simp [*], by simp [*], by simp [*], by simp [*]⟩
  have hP := hP0.set (100 * ceilD r 100)
  have hB : Below w.heap.size w (w'.setCell ⟨w.heap.size, 1, none⟩ (.int .i64 (100 * ceilD r 100))) := by
    repeat' (first
      | (with_reducible exact Below.refl _ _)
      | (with_reducible assumption)
      | (with_reducible refine Below.alloc ?_ ?_ _)
      | (with_reducible refine Below.drew ?_)
      | (with_reducible refine bdrewN ?_ _)
      | (with_reducible refine Below.setCell ?_ ?_ _)
      | (with_reducible refine bthen (by assumption) ?_ ?_)
      | go_size)
  generalize w'.setCell ⟨w.heap.size, 1, none⟩ (.int .i64 (100 * ceilD r 100)) = W at *
  generalize ceilD r 100 = q at *
  clear hP0
  go_loopw [26] (fun _ wr => ∃ (n : Nat) (d : Int), r ≤ d ∧ d ≤ 15100 ∧ 15000 < d + 100 * n ∧ Hid (leastC a r y way secs n d = leastI a r y way secs) ∧ Hid (ProfAt w.heap.size a d r y wr) ∧ Below w.heap.size w wr) (fun _ wr => (15200 - intOf ((wr.cell? ⟨w.heap.size, 1, none⟩).getD (.int .i64 0))).toNat)
  case atStart => exact ⟨200, 100 * q, by omega, by omega, by omega, HI, Lib.hid hP, hB⟩
  case round =>
    obtain ⟨n, d, d0, d1, dn, HK, HP1, hBr⟩ := hrel
    have k1 := HP1.out.c1
    have k2 := HP1.out.c2
    have k0 := HP1.out.c0
    have k3 := HP1.out.c3
    have kf := HP1.out.fz
    have kl := HP1.out.lt
    have hsr := hBr.size
    by_cases hd : 15000 < d
    · have HE := Lib.hid (leastC_end (a := a) (r := r) (y := y) (way := way) (secs := secs) (n := n) hd)
      go_wp2
      go_returns
      exact ⟨by (rw [← HK.out, HE.out]) <;> rfl, hBr⟩
    · obtain ⟨n, rfl⟩ : ∃ n', n = n' + 1 := ⟨n - 1, by omega⟩
      have hv := HP.out d d0 (by omega)
      have HV := Lib.hid hv
      clear hv
      by_cases ht : timeI a d r y way ≤ secs
      · have HE := Lib.hid (leastC_hit (n := n) hd ht)
        go_wp2_with (go_at_call 42; go_call (rideTimeI_c a d r y way HV.out HL.out _); rintro e wN ⟨rfl, hb⟩; have hPN := HP1.out.below hb; have m1 := hPN.c1; have mf := hPN.fz; have ml := hPN.lt; have HPN := Lib.hid hPN; clear hPN)
        go_returns
        exact ⟨by (rw [← HK.out, HE.out]) <;> rfl, hBr.trans (hb.mono hsr)⟩
      · have HE := Lib.hid (leastC_on (n := n) hd ht)
        go_wp2_with (go_at_call 42; go_call (rideTimeI_c a d r y way HV.out HL.out _); rintro e wN ⟨rfl, hb⟩; have hPN := HP1.out.below hb; have m1 := hPN.c1; have mf := hPN.fz; have ml := hPN.lt; have HPN := Lib.hid hPN; clear hPN)
        go_roundw
        case rel => exact ⟨n, d + 100, by omega, by omega, by omega, Lib.hid (HE.out.symm.trans HK.out), Lib.hid (HPN.out.set (d + 100)), (hBr.trans (hb.mono hsr)).setCell (by simp) _⟩
        case measure => simp [intOf, *, go_sem, k1]; omega
set_option maxHeartbeats 1000000 in
theorem specLeastCruise_t (a c r y way secs : Int) (w : World) (hl : inB way 0 3000000 = true) (hok : profOk a c r y = true) (hs : inB secs 0 3000000 = true) : Calls Try.prog 24 #[.agg #[.int .i64 a, .int .i64 c, .int .i64 r, .int .i64 y], .int .i64 way, .int .i64 secs] w fun e w' => e = .returned (.tuple #[.int .i64 (leastI a r y way secs).1, .int .i64 (leastI a r y way secs).2]) ∧ Below w.heap.size w w' := by
  obtain ⟨⟨a0, a1⟩, ⟨c0, c1⟩, ⟨r0, r1⟩, ⟨y0, y1⟩⟩ := profOk_true hok
  obtain ⟨s0, s1⟩ := inB_true hs
  have HP := Lib.hid (show ∀ d, r ≤ d → d ≤ 15000 → profOk a d r y = true from fun d h1 h2 => profOk_with hok h1 h2)
  have HI := Lib.hid (show leastC a r y way secs 200 ((r + 99) / 100 * 100) = leastI a r y way secs from rfl)
  have q0 : r ≤ (r + 99) / 100 * 100 := by omega
  have q1 : (r + 99) / 100 * 100 ≤ 15000 := by omega
  have q2 : 0 ≤ (r + 99) / 100 := by omega
  have q3 : (r + 99) / 100 ≤ 200 := by omega
  have HL := Lib.hid hl
  go_enter Try.func24, Try.ntmps24
  go_wp2_with
    (first
      | (go_at_call 37; go_call (l09Ask_v hok hl); rintro e w' ⟨rfl, nq, rfl⟩)
      | (go_at_call 30; go_call (l00In_v hs _); rintro e w' ⟨rfl, rfl⟩))
  clear hok hs hl
  have hP : ProfAt (w.heap.size + 1) a ((r + 99) / 100 * 100) r y (((w.alloc (.cells #[.int .i64 a, .int .i64 c, .int .i64 r, .int .i64 y] 26)).drewN nq).alloc (.cells #[.int .i64 a, .int .i64 ((r + 99) / 100 * 100), .int .i64 r, .int .i64 y] 26)) := by
    exact ProfAt.new _ _ _ _ _ _ (by simp)
  have hB : Below w.heap.size w (((w.alloc (.cells #[.int .i64 a, .int .i64 c, .int .i64 r, .int .i64 y] 26)).drewN nq).alloc (.cells #[.int .i64 a, .int .i64 ((r + 99) / 100 * 100), .int .i64 r, .int .i64 y] 26)) := by
    repeat' (first
      | (with_reducible exact Below.refl _ _)
      | (with_reducible assumption)
      | (with_reducible refine Below.alloc ?_ ?_ _)
      | (with_reducible refine Below.drew ?_)
      | (with_reducible refine bdrewN ?_ _)
      | (with_reducible refine Below.setCell ?_ ?_ _)
      | (with_reducible refine bthen (by assumption) ?_ ?_)
      | go_size)
  generalize (((w.alloc (.cells #[.int .i64 a, .int .i64 c, .int .i64 r, .int .i64 y] 26)).drewN nq).alloc (.cells #[.int .i64 a, .int .i64 ((r + 99) / 100 * 100), .int .i64 r, .int .i64 y] 26)) = W at *
  go_loopw [26] (fun _ wr => ∃ (n : Nat) (d : Int), r ≤ d ∧ d ≤ 15100 ∧ 15000 < d + 100 * n ∧ Hid (leastC a r y way secs n d = leastI a r y way secs) ∧ Hid (ProfAt (w.heap.size + 1) a d r y wr) ∧ Below w.heap.size w wr) (fun _ wr => (15200 - intOf ((wr.cell? ⟨(w.heap.size + 1), 1, none⟩).getD (.int .i64 0))).toNat)
  case atStart => exact ⟨200, (r + 99) / 100 * 100, by omega, by omega, by omega, HI, Lib.hid hP, hB⟩
  case round =>
    obtain ⟨n, d, d0, d1, dn, HK, HP1, hBr⟩ := hrel
    have k1 := HP1.out.c1
    have k2 := HP1.out.c2
    have k0 := HP1.out.c0
    have k3 := HP1.out.c3
    have kf := HP1.out.fz
    have kl := HP1.out.lt
    have hsr := hBr.size
    by_cases hd : 15000 < d
    · have HE := Lib.hid (leastC_end (a := a) (r := r) (y := y) (way := way) (secs := secs) (n := n) hd)
      go_wp2
      go_returns
      exact ⟨by (rw [← HK.out, HE.out]) <;> rfl, hBr⟩
    · obtain ⟨n, rfl⟩ : ∃ n', n = n' + 1 := ⟨n - 1, by omega⟩
      have hv := HP.out d d0 (by omega)
      have HV := Lib.hid hv
      clear hv
      by_cases ht : timeI a d r y way ≤ secs
      · have HE := Lib.hid (leastC_hit (n := n) hd ht)
        go_wp2_with
          (first
            | (go_at_call 41; go_call (l09Time_c a d r y way HV.out HL.out); rintro e w' ⟨rfl, nq, rfl⟩))
        go_returns
        exact ⟨by (rw [← HK.out, HE.out]) <;> rfl, bdrewN hBr _⟩
      · have HE := Lib.hid (leastC_on (n := n) hd ht)
        go_wp2_with
          (first
            | (go_at_call 41; go_call (l09Time_c a d r y way HV.out HL.out); rintro e w' ⟨rfl, nq, rfl⟩))
        go_roundw
        case rel => exact ⟨n, d + 100, by omega, by omega, by omega, Lib.hid (HE.out.symm.trans HK.out), Lib.hid ((HP1.out.below (bdrewN (Below.refl _ _) _)).set (d + 100)), (bdrewN hBr _).setCell (by simp) _⟩
        case measure => simp [intOf, *, go_sem, k1]; omega
theorem implLeastCruise_c (a c r y way secs : Int) (w : World) : Calls Try.prog 25 #[.agg #[.int .i64 a, .int .i64 c, .int .i64 r, .int .i64 y], .int .i64 way, .int .i64 secs] w fun e w' => e = .returned (.tuple #[.int .i64 (fLeast a c r y way secs).1, .int .i64 (fLeast a c r y way secs).2]) ∧ Below w.heap.size w w' := by
  cases hl : inB way 0 3000000
  · exact implLeastCruise_f a c r y way secs w hl
  · by_cases h : (profOk a c r y && inB secs 0 3000000) = true
    · obtain ⟨h1, h2⟩ := Bool.and_eq_true_iff.1 h
      have h := implLeastCruise_t a c r y way secs w hl h1 h2
      simpa only [fLeast, h1, h2, hl, Bool.and_self, if_true] using h
    · exact implLeastCruise_b a c r y way secs w hl (Bool.eq_false_iff.2 h)
theorem specLeastCruise_c (a c r y way secs : Int) (w : World) : Calls Try.prog 24 #[.agg #[.int .i64 a, .int .i64 c, .int .i64 r, .int .i64 y], .int .i64 way, .int .i64 secs] w fun e w' => e = .returned (.tuple #[.int .i64 (fLeast a c r y way secs).1, .int .i64 (fLeast a c r y way secs).2]) ∧ Below w.heap.size w w' := by
  cases hok : profOk a c r y <;> cases hl : inB way 0 3000000 <;> cases hs : inB secs 0 3000000
  case true.true.true =>
    have h := specLeastCruise_t a c r y way secs w hl hok hs
    simpa only [fLeast, hok, hs, hl, Bool.and_self, if_true] using h
  all_goals
    go_enter Try.func24, Try.ntmps24
    go_wp2_with
      (first
        | (go_at_call 37; go_call (l09Ask_v hok hl); rintro e w' ⟨rfl, nq, rfl⟩)
        | (go_at_call 30; go_call (l00In_v hs _); rintro e w' ⟨rfl, rfl⟩))
    go_returns
    refine ⟨by simp [fLeast, hok, hl, hs], ?_⟩
    repeat' (first
      | (with_reducible exact Below.refl _ _)
      | (with_reducible assumption)
      | (with_reducible refine Below.alloc ?_ ?_ _)
      | (with_reducible refine Below.drew ?_)
      | (with_reducible refine bdrewN ?_ _)
      | (with_reducible refine Below.setCell ?_ ?_ _)
      | (with_reducible refine bthen (by assumption) ?_ ?_)
      | go_size)
theorem walk_FnExactLeastCruise (a c r y way q : Int) (w : World) (_ : I64 a) (_ : I64 c) (_ : I64 r) (_ : I64 y) (_ : I64 way) (_ : I64 q) : Calls Try.prog 9 #[.agg #[.int .i64 a, .int .i64 c, .int .i64 r, .int .i64 y], .int .i64 way, .int .i64 q] w fun e w' => e = .returned (.bool true) ∧ Below w.heap.size w w' := by
  go_enter Try.func9, Try.ntmps9
  go_wp2_with
    (first
      | (go_at_call 12; go_call (toProfile_c _ _ _ _ _); rintro e w' ⟨rfl, hb⟩; obtain ⟨qc, qf, qz, qs⟩ := bfacts hb; (try simp only [World.size_alloc, World.size_setCell, World.size_drew, World.heap_drewN] at qs); have za : w.heap.size < w'.heap.size := (by omega); have pa0 : w'.cell? ⟨w.heap.size, 0, none⟩ = some (.int .i64 a) := (by rw [qc _ _ (by first | assumption | (simp; done) | (simp; omega))]; first | assumption | (simp; done) | (simp [*]; done) | (simp [*, go_sem]; done)); have pa1 : w'.cell? ⟨w.heap.size, 1, none⟩ = some (.int .i64 c) := (by rw [qc _ _ (by first | assumption | (simp; done) | (simp; omega))]; first | assumption | (simp; done) | (simp [*]; done) | (simp [*, go_sem]; done)); have pa2 : w'.cell? ⟨w.heap.size, 2, none⟩ = some (.int .i64 r) := (by rw [qc _ _ (by first | assumption | (simp; done) | (simp; omega))]; first | assumption | (simp; done) | (simp [*]; done) | (simp [*, go_sem]; done)); have pa3 : w'.cell? ⟨w.heap.size, 3, none⟩ = some (.int .i64 y) := (by rw [qc _ _ (by first | assumption | (simp; done) | (simp; omega))]; first | assumption | (simp; done) | (simp [*]; done) | (simp [*, go_sem]; done)))
      | (go_at_call 24; go_call (specLeastCruise_c _ _ _ _ _ _ _); rintro e w' ⟨rfl, hb⟩; obtain ⟨qc, qf, qz, qs⟩ := bfacts hb; (try simp only [World.size_alloc, World.size_setCell, World.size_drew, World.heap_drewN] at qs); have za : w.heap.size < w'.heap.size := (by omega); have pa0 : w'.cell? ⟨w.heap.size, 0, none⟩ = some (.int .i64 a) := (by rw [qc _ _ (by first | assumption | (simp; done) | (simp; omega))]; first | assumption | (simp; done) | (simp [*]; done) | (simp [*, go_sem]; done)); have pa1 : w'.cell? ⟨w.heap.size, 1, none⟩ = some (.int .i64 c) := (by rw [qc _ _ (by first | assumption | (simp; done) | (simp; omega))]; first | assumption | (simp; done) | (simp [*]; done) | (simp [*, go_sem]; done)); have pa2 : w'.cell? ⟨w.heap.size, 2, none⟩ = some (.int .i64 r) := (by rw [qc _ _ (by first | assumption | (simp; done) | (simp; omega))]; first | assumption | (simp; done) | (simp [*]; done) | (simp [*, go_sem]; done)); have pa3 : w'.cell? ⟨w.heap.size, 3, none⟩ = some (.int .i64 y) := (by rw [qc _ _ (by first | assumption | (simp; done) | (simp; omega))]; first | assumption | (simp; done) | (simp [*]; done) | (simp [*, go_sem]; done)))
      | (go_at_call 25; go_call (implLeastCruise_c _ _ _ _ _ _ _); rintro e w' ⟨rfl, hb⟩; obtain ⟨qc, qf, qz, qs⟩ := bfacts hb; (try simp only [World.size_alloc, World.size_setCell, World.size_drew, World.heap_drewN] at qs); have za : w.heap.size < w'.heap.size := (by omega); have pa0 : w'.cell? ⟨w.heap.size, 0, none⟩ = some (.int .i64 a) := (by rw [qc _ _ (by first | assumption | (simp; done) | (simp; omega))]; first | assumption | (simp; done) | (simp [*]; done) | (simp [*, go_sem]; done)); have pa1 : w'.cell? ⟨w.heap.size, 1, none⟩ = some (.int .i64 c) := (by rw [qc _ _ (by first | assumption | (simp; done) | (simp; omega))]; first | assumption | (simp; done) | (simp [*]; done) | (simp [*, go_sem]; done)); have pa2 : w'.cell? ⟨w.heap.size, 2, none⟩ = some (.int .i64 r) := (by rw [qc _ _ (by first | assumption | (simp; done) | (simp; omega))]; first | assumption | (simp; done) | (simp [*]; done) | (simp [*, go_sem]; done)); have pa3 : w'.cell? ⟨w.heap.size, 3, none⟩ = some (.int .i64 y) := (by rw [qc _ _ (by first | assumption | (simp; done) | (simp; omega))]; first | assumption | (simp; done) | (simp [*]; done) | (simp [*, go_sem]; done))))
  go_returns
  refine ⟨by simp, ?_⟩
  repeat' (first
    | (with_reducible exact Below.refl _ _)
    | (with_reducible assumption)
    | (with_reducible refine Below.alloc ?_ ?_ _)
    | (with_reducible refine Below.drew ?_)
    | (with_reducible refine bdrewN ?_ _)
    | (with_reducible refine Below.setCell ?_ ?_ _)
    | (with_reducible refine bthen (by assumption) ?_ ?_)
    | go_size)
end Go.Proofs.Ytmmabkmcgffnpaa
