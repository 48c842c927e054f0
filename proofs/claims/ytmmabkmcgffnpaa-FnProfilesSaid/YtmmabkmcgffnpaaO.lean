/- A ride, second by second. -/
import Derived.Test.YtmmabkmcgffnpaaN2
import Derived.Test.YtmmabkmcgffnpaaRQ
namespace Go.Proofs.Ytmmabkmcgffnpaa
open Go.ChangeShapes Go.WideShapes Go.ChangeAt Go.RowKit
set_option linter.unusedVariables false
set_option linter.unusedSimpArgs false

/-- The world w' is w with new blocks, and with writes to the block b alone. -/
structure OnlyIn (b : Nat) (w w' : World) : Prop where
  os : w'.os = w.os
  tape : w'.tape = w.tape
  output : w'.output = w.output
  size : w.heap.size ≤ w'.heap.size
  block : ∀ k, k < w.heap.size → k ≠ b → w'.heap[k]? = w.heap[k]?
theorem OnlyIn.refl (b : Nat) (w : World) : OnlyIn b w w := ⟨rfl, rfl, rfl, Nat.le_refl _, fun _ _ _ => rfl⟩
theorem OnlyIn.then_ {b : Nat} {w w' w'' : World} (h : OnlyIn b w w') (k : OnlyIn b w' w'') : OnlyIn b w w'' :=
  ⟨k.os.trans h.os, k.tape.trans h.tape, k.output.trans h.output, Nat.le_trans h.size k.size, fun i hi hne => (k.block i (Nat.lt_of_lt_of_le hi h.size) hne).trans (h.block i hi hne)⟩
theorem OnlyIn.of_below {b : Nat} {w w' : World} (h : Below w.heap.size w w') : OnlyIn b w w' := ⟨h.os, h.tape, h.output, h.size, fun i hi _ => h.block i hi⟩
theorem OnlyIn.set_ {b : Nat} (w : World) (o : Nat) (u : Value) : OnlyIn b w (w.setCell ⟨b, o, none⟩ u) := ⟨rfl, rfl, rfl, by simp, fun i hi hne => Below.heap_setCell w ⟨b, o, none⟩ u i hne⟩
theorem OnlyIn.below {b B : Nat} {w w' : World} (h : OnlyIn b w w') (hb : B ≤ b) (hB : B ≤ w.heap.size) : Below B w w' := ⟨h.os, h.tape, h.output, h.size, fun i hi => h.block i (by omega) (by omega)⟩
theorem OnlyIn.cell {b : Nat} {w w' : World} (h : OnlyIn b w w') {p : Addr} (hp : p.block < w.heap.size) (hne : p.block ≠ b) : w'.cell? p = w.cell? p := World.cell?_of_block (h.block p.block hp hne)
/-- A captured variable: a number in a block of its own, which may be written. -/
def Cap (w : World) (b : Nat) (x : Int) : Prop := w.cell? ⟨b, 0, none⟩ = some (.int .i64 x) ∧ w.frozen? ⟨b, 0, none⟩ = false ∧ b < w.heap.size
theorem Cap.below {w w' : World} {b : Nat} {x : Int} (h : Cap w b x) (hb : Below w.heap.size w w') : Cap w' b x :=
  ⟨(hb.cell (p := ⟨b, 0, none⟩) h.2.2).trans h.1, (hb.frozen (p := ⟨b, 0, none⟩) h.2.2).trans h.2.1, Nat.lt_of_lt_of_le h.2.2 hb.size⟩
theorem Cap.other {w w' : World} {b d : Nat} {x : Int} (h : Cap w b x) (hb : OnlyIn d w w') (hne : b ≠ d) : Cap w' b x :=
  ⟨(hb.cell (p := ⟨b, 0, none⟩) h.2.2 hne).trans h.1, (World.frozen?_of_block (w := w) (hb.block b h.2.2 hne)).trans h.2.1, Nat.lt_of_lt_of_le h.2.2 hb.size⟩
/-- What a second's function hands back: shall it go on, and what the captured variable holds. -/
def SecPost (go : Bool) (b : Nat) (x : Int) (w : World) (e : Ending) (w' : World) : Prop := e = .returned (.bool go) ∧ Cap w' b x ∧ OnlyIn b w w'
theorem rideTime1_c (pl sp x : Int) (b : Nat) (x0 : 0 ≤ x) (x1 : x ≤ 3000000) (w : World) (hc : Cap w b x) : Calls Try.prog 57 #[.int .i64 pl, .int .i64 sp, .pointer (some ⟨b, 0, none⟩)] w (SecPost true b (x + 1) w) := by
  obtain ⟨h1, h2, h3⟩ := hc
  go_enter Try.func57, Try.ntmps57
  go_wp2
  go_ret
  exact ⟨rfl, ⟨by simp [*, go_sem], by simp [*, go_sem], by simp [*, go_sem]⟩, OnlyIn.set_ _ _ _⟩
set_option maxHeartbeats 1000000 in
theorem rideTime_c (a c r y way x0 : Int) (b : Nat) (hp : profOk a c r y = true) (hw : inB way 0 3000000 = true) (w : World) (hc : Cap w b x0) (hi0 : 0 ≤ x0 ∧ x0 ≤ 0) : Calls Try.prog 39 #[.agg #[.int .i64 a, .int .i64 c, .int .i64 r, .int .i64 y], .int .i64 way, .func (.func 57) #[] #[.pointer (some ⟨b, 0, none⟩)]] w fun e w' => e = .returned (.tuple #[]) ∧ Cap w' b (rideF stTime a c r y way way.toNat 0 0 x0) ∧ OnlyIn b w w' := by
  obtain ⟨⟨a0, a1⟩, ⟨c0, c1⟩, ⟨r0, r1⟩, ⟨y0, y1⟩⟩ := profOk_true hp
  obtain ⟨w0, w1⟩ := inB_true hw
  have hlt := hc.2.2
  have HC := Lib.hid hc
  clear hp hw hc
  go_enter Try.func39, Try.ntmps39
  go_wp2
  have hO : OnlyIn b w (w.alloc (.cells #[.int .i64 a, .int .i64 c, .int .i64 r, .int .i64 y] 26)) := OnlyIn.of_below ((Below.refl _ _).alloc (Nat.le_refl _) _)
  have hC1 : Cap (w.alloc (.cells #[.int .i64 a, .int .i64 c, .int .i64 r, .int .i64 y] 26)) b x0 := HC.out.below ((Below.refl _ _).alloc (Nat.le_refl _) _)
  have hS0 : w.heap.size < (w.alloc (.cells #[.int .i64 a, .int .i64 c, .int .i64 r, .int .i64 y] 26)).heap.size := by simp
  have k0 : (w.alloc (.cells #[.int .i64 a, .int .i64 c, .int .i64 r, .int .i64 y] 26)).cell? ⟨w.heap.size, 0, none⟩ = some (.int .i64 a) := by simp
  have k1 : (w.alloc (.cells #[.int .i64 a, .int .i64 c, .int .i64 r, .int .i64 y] 26)).cell? ⟨w.heap.size, 1, none⟩ = some (.int .i64 c) := by simp
  have k2 : (w.alloc (.cells #[.int .i64 a, .int .i64 c, .int .i64 r, .int .i64 y] 26)).cell? ⟨w.heap.size, 2, none⟩ = some (.int .i64 r) := by simp
  have k3 : (w.alloc (.cells #[.int .i64 a, .int .i64 c, .int .i64 r, .int .i64 y] 26)).cell? ⟨w.heap.size, 3, none⟩ = some (.int .i64 y) := by simp
  have HI0 := Lib.hid hi0
  clear hi0
  generalize w.alloc (.cells #[.int .i64 a, .int .i64 c, .int .i64 r, .int .i64 y] 26) = W at *
  generalize w.heap.size = ob at *
  have hne : ob ≠ b := by omega
  go_loopw [6, 7] (fun p v wr => ∃ (n : Nat) (pl sp x : Int), 0 ≤ pl ∧ pl ≤ way ∧ 0 ≤ sp ∧ sp ≤ 15000 ∧ way - pl ≤ n ∧ Hid (0 ≤ x ∧ x ≤ pl) ∧ Hid (rideF stTime a c r y way n pl sp x = rideF stTime a c r y way way.toNat 0 0 x0) ∧ p = .int .i64 pl ∧ v = .int .i64 sp ∧ OnlyIn b W wr ∧ Hid (Cap wr b x)) (fun p _ _ => (way - intOf p).toNat)
  case atStart => exact ⟨way.toNat, 0, 0, x0, by omega, by omega, by omega, by omega, by omega, HI0, Lib.hid rfl, rfl, rfl, OnlyIn.refl _ _, Lib.hid hC1⟩
  case round =>
    obtain ⟨n, pl, sp, x, h1, h2, h3, h4, h5, HI, HK, rfl, rfl, hOr, HCr⟩ := hrel
    by_cases hlt2 : pl < way
    · obtain ⟨n, rfl⟩ : ∃ n', n = n' + 1 := ⟨n - 1, by omega⟩
      obtain ⟨v0, v1, v2, v3, v4⟩ := nextI_bd (a := a) (c := c) (r := r) (y := y) (speed := sp) (left := way - pl) (by omega) r1 r0 (by omega)
      have hv := v3 (by omega)
      clear v3 v4
      have hs := hOr.size
      have hsz : ob < wr.heap.size := by omega
      have c0' : wr.cell? ⟨ob, 0, none⟩ = some (.int .i64 a) := (hOr.cell (p := ⟨ob, 0, none⟩) hS0 hne).trans k0
      have c1' : wr.cell? ⟨ob, 1, none⟩ = some (.int .i64 c) := (hOr.cell (p := ⟨ob, 1, none⟩) hS0 hne).trans k1
      have c2' : wr.cell? ⟨ob, 2, none⟩ = some (.int .i64 r) := (hOr.cell (p := ⟨ob, 2, none⟩) hS0 hne).trans k2
      have c3' : wr.cell? ⟨ob, 3, none⟩ = some (.int .i64 y) := (hOr.cell (p := ⟨ob, 3, none⟩) hS0 hne).trans k3
      clear hs
      have HN := Lib.hid (rideF_go (step := stTime) (a := a) (c := c) (r := r) (y := y) (way := way) (n := n) (pl := pl) (sp := sp) (s := x) hlt2 rfl)
      go_wp2_with
        (first
          | (go_at_call 36; go_call nextSpeed_c; rintro e wN ⟨rfl, hb⟩)
          | (go_at_call 57; (refine (rideTime1_c _ _ x b (by have := HI.out; omega) (by have := HI.out; omega) _ (HCr.out.below hb)).mono ?_); rintro e wC ⟨rfl, hCC, hCO⟩))
      go_roundw
      case rel => exact ⟨n, pl + nextI a c r y sp (way - pl), nextI a c r y sp (way - pl), x + 1, by omega, by omega, by omega, by omega, by omega, Lib.hid (by have := HI.out; omega), Lib.hid (HN.out.symm.trans HK.out), rfl, rfl, (hOr.then_ (OnlyIn.of_below hb)).then_ hCO, Lib.hid hCC⟩
      case measure => simp [intOf]; omega
    · have HE := Lib.hid (show rideF stTime a c r y way n pl sp x = x from rideF_end hlt2)
      go_wp2
      go_end0
      refine ⟨rfl, ?_, hO.then_ hOr⟩
      rw [← HK.out, HE.out]
      exact HCr.out
theorem TopSpeed1_c (pl sp x : Int) (b : Nat) (w : World) (hc : Cap w b x) : Calls Try.prog 40 #[.int .i64 pl, .int .i64 sp, .pointer (some ⟨b, 0, none⟩)] w (SecPost true b (max x sp) w) := by
  obtain ⟨h1, h2, h3⟩ := hc
  rcases Int.lt_or_le x sp with h | h
  · have e : max x sp = sp := by omega
    rw [e]
    go_enter Try.func40, Try.ntmps40
    go_wp2
    go_ret
    exact ⟨rfl, ⟨by simp [*, go_sem], by simp [*, go_sem], by simp [*, go_sem]⟩, OnlyIn.set_ _ _ _⟩
  · have e : max x sp = x := by omega
    rw [e]
    go_enter Try.func40, Try.ntmps40
    go_wp2
    go_ret
    exact ⟨rfl, ⟨by simp [*, go_sem], by simp [*, go_sem], by simp [*, go_sem]⟩, OnlyIn.set_ _ _ _⟩
set_option maxHeartbeats 1000000 in
theorem rideTop_c (a c r y way x0 : Int) (b : Nat) (hp : profOk a c r y = true) (hw : inB way 0 3000000 = true) (w : World) (hc : Cap w b x0) (hi0 : 0 ≤ x0 ∧ x0 ≤ 15000) : Calls Try.prog 39 #[.agg #[.int .i64 a, .int .i64 c, .int .i64 r, .int .i64 y], .int .i64 way, .func (.func 40) #[] #[.pointer (some ⟨b, 0, none⟩)]] w fun e w' => e = .returned (.tuple #[]) ∧ Cap w' b (rideF stTop a c r y way way.toNat 0 0 x0) ∧ OnlyIn b w w' := by
  obtain ⟨⟨a0, a1⟩, ⟨c0, c1⟩, ⟨r0, r1⟩, ⟨y0, y1⟩⟩ := profOk_true hp
  obtain ⟨w0, w1⟩ := inB_true hw
  have hlt := hc.2.2
  have HC := Lib.hid hc
  clear hp hw hc
  go_enter Try.func39, Try.ntmps39
  go_wp2
  have hO : OnlyIn b w (w.alloc (.cells #[.int .i64 a, .int .i64 c, .int .i64 r, .int .i64 y] 26)) := OnlyIn.of_below ((Below.refl _ _).alloc (Nat.le_refl _) _)
  have hC1 : Cap (w.alloc (.cells #[.int .i64 a, .int .i64 c, .int .i64 r, .int .i64 y] 26)) b x0 := HC.out.below ((Below.refl _ _).alloc (Nat.le_refl _) _)
  have hS0 : w.heap.size < (w.alloc (.cells #[.int .i64 a, .int .i64 c, .int .i64 r, .int .i64 y] 26)).heap.size := by simp
  have k0 : (w.alloc (.cells #[.int .i64 a, .int .i64 c, .int .i64 r, .int .i64 y] 26)).cell? ⟨w.heap.size, 0, none⟩ = some (.int .i64 a) := by simp
  have k1 : (w.alloc (.cells #[.int .i64 a, .int .i64 c, .int .i64 r, .int .i64 y] 26)).cell? ⟨w.heap.size, 1, none⟩ = some (.int .i64 c) := by simp
  have k2 : (w.alloc (.cells #[.int .i64 a, .int .i64 c, .int .i64 r, .int .i64 y] 26)).cell? ⟨w.heap.size, 2, none⟩ = some (.int .i64 r) := by simp
  have k3 : (w.alloc (.cells #[.int .i64 a, .int .i64 c, .int .i64 r, .int .i64 y] 26)).cell? ⟨w.heap.size, 3, none⟩ = some (.int .i64 y) := by simp
  have HI0 := Lib.hid hi0
  clear hi0
  generalize w.alloc (.cells #[.int .i64 a, .int .i64 c, .int .i64 r, .int .i64 y] 26) = W at *
  generalize w.heap.size = ob at *
  have hne : ob ≠ b := by omega
  go_loopw [6, 7] (fun p v wr => ∃ (n : Nat) (pl sp x : Int), 0 ≤ pl ∧ pl ≤ way ∧ 0 ≤ sp ∧ sp ≤ 15000 ∧ way - pl ≤ n ∧ Hid (0 ≤ x ∧ x ≤ 15000) ∧ Hid (rideF stTop a c r y way n pl sp x = rideF stTop a c r y way way.toNat 0 0 x0) ∧ p = .int .i64 pl ∧ v = .int .i64 sp ∧ OnlyIn b W wr ∧ Hid (Cap wr b x)) (fun p _ _ => (way - intOf p).toNat)
  case atStart => exact ⟨way.toNat, 0, 0, x0, by omega, by omega, by omega, by omega, by omega, HI0, Lib.hid rfl, rfl, rfl, OnlyIn.refl _ _, Lib.hid hC1⟩
  case round =>
    obtain ⟨n, pl, sp, x, h1, h2, h3, h4, h5, HI, HK, rfl, rfl, hOr, HCr⟩ := hrel
    by_cases hlt2 : pl < way
    · obtain ⟨n, rfl⟩ : ∃ n', n = n' + 1 := ⟨n - 1, by omega⟩
      obtain ⟨v0, v1, v2, v3, v4⟩ := nextI_bd (a := a) (c := c) (r := r) (y := y) (speed := sp) (left := way - pl) (by omega) r1 r0 (by omega)
      have hv := v3 (by omega)
      clear v3 v4
      have hs := hOr.size
      have hsz : ob < wr.heap.size := by omega
      have c0' : wr.cell? ⟨ob, 0, none⟩ = some (.int .i64 a) := (hOr.cell (p := ⟨ob, 0, none⟩) hS0 hne).trans k0
      have c1' : wr.cell? ⟨ob, 1, none⟩ = some (.int .i64 c) := (hOr.cell (p := ⟨ob, 1, none⟩) hS0 hne).trans k1
      have c2' : wr.cell? ⟨ob, 2, none⟩ = some (.int .i64 r) := (hOr.cell (p := ⟨ob, 2, none⟩) hS0 hne).trans k2
      have c3' : wr.cell? ⟨ob, 3, none⟩ = some (.int .i64 y) := (hOr.cell (p := ⟨ob, 3, none⟩) hS0 hne).trans k3
      clear hs
      have HN := Lib.hid (rideF_go (step := stTop) (a := a) (c := c) (r := r) (y := y) (way := way) (n := n) (pl := pl) (sp := sp) (s := x) hlt2 rfl)
      go_wp2_with
        (first
          | (go_at_call 36; go_call nextSpeed_c; rintro e wN ⟨rfl, hb⟩)
          | (go_at_call 40; (refine (TopSpeed1_c _ _ x b _ (HCr.out.below hb)).mono ?_); rintro e wC ⟨rfl, hCC, hCO⟩))
      go_roundw
      case rel => exact ⟨n, pl + nextI a c r y sp (way - pl), nextI a c r y sp (way - pl), max x (nextI a c r y sp (way - pl)), by omega, by omega, by omega, by omega, by omega, Lib.hid (by have := HI.out; omega), Lib.hid (HN.out.symm.trans HK.out), rfl, rfl, (hOr.then_ (OnlyIn.of_below hb)).then_ hCO, Lib.hid hCC⟩
      case measure => simp [intOf]; omega
    · have HE := Lib.hid (show rideF stTop a c r y way n pl sp x = x from rideF_end hlt2)
      go_wp2
      go_end0
      refine ⟨rfl, ?_, hO.then_ hOr⟩
      rw [← HK.out, HE.out]
      exact HCr.out
theorem SecondsFast1_c (pl sp q x : Int) (d b : Nat) (hdb : d ≠ b) (x0 : 0 ≤ x) (x1 : x ≤ 3000000) (w : World) (hc : Cap w b x) (hd : w.cell? ⟨d, 0, none⟩ = some (.int .i64 q)) : Calls Try.prog 45 #[.int .i64 pl, .int .i64 sp, .pointer (some ⟨d, 0, none⟩), .pointer (some ⟨b, 0, none⟩)] w (SecPost true b (if q ≤ sp then x + 1 else x) w) := by
  obtain ⟨h1, h2, h3⟩ := hc
  by_cases h : q ≤ sp
  · rw [if_pos h]
    go_enter Try.func45, Try.ntmps45
    go_wp2
    go_ret
    exact ⟨rfl, ⟨by simp [*, go_sem], by simp [*, go_sem], by simp [*, go_sem]⟩, OnlyIn.set_ _ _ _⟩
  · rw [if_neg h]
    go_enter Try.func45, Try.ntmps45
    go_wp2
    go_ret
    exact ⟨rfl, ⟨h1, h2, h3⟩, OnlyIn.refl _ _⟩
set_option maxHeartbeats 1000000 in
theorem rideFast_c (a c r y way x0 : Int) (q : Int) (d : Nat) (b : Nat) (hp : profOk a c r y = true) (hw : inB way 0 3000000 = true) (w : World) (hc : Cap w b x0) (hd : w.cell? ⟨d, 0, none⟩ = some (.int .i64 q)) (hdl : d < w.heap.size) (hdb : d ≠ b) (hi0 : 0 ≤ x0 ∧ x0 ≤ 0) : Calls Try.prog 39 #[.agg #[.int .i64 a, .int .i64 c, .int .i64 r, .int .i64 y], .int .i64 way, .func (.func 45) #[] #[.pointer (some ⟨d, 0, none⟩), .pointer (some ⟨b, 0, none⟩)]] w fun e w' => e = .returned (.tuple #[]) ∧ Cap w' b (rideF (stFast q) a c r y way way.toNat 0 0 x0) ∧ OnlyIn b w w' := by
  obtain ⟨⟨a0, a1⟩, ⟨c0, c1⟩, ⟨r0, r1⟩, ⟨y0, y1⟩⟩ := profOk_true hp
  obtain ⟨w0, w1⟩ := inB_true hw
  have hlt := hc.2.2
  have HC := Lib.hid hc
  clear hp hw hc
  go_enter Try.func39, Try.ntmps39
  go_wp2
  have hO : OnlyIn b w (w.alloc (.cells #[.int .i64 a, .int .i64 c, .int .i64 r, .int .i64 y] 26)) := OnlyIn.of_below ((Below.refl _ _).alloc (Nat.le_refl _) _)
  have hC1 : Cap (w.alloc (.cells #[.int .i64 a, .int .i64 c, .int .i64 r, .int .i64 y] 26)) b x0 := HC.out.below ((Below.refl _ _).alloc (Nat.le_refl _) _)
  have hS0 : w.heap.size < (w.alloc (.cells #[.int .i64 a, .int .i64 c, .int .i64 r, .int .i64 y] 26)).heap.size := by simp
  have k0 : (w.alloc (.cells #[.int .i64 a, .int .i64 c, .int .i64 r, .int .i64 y] 26)).cell? ⟨w.heap.size, 0, none⟩ = some (.int .i64 a) := by simp
  have k1 : (w.alloc (.cells #[.int .i64 a, .int .i64 c, .int .i64 r, .int .i64 y] 26)).cell? ⟨w.heap.size, 1, none⟩ = some (.int .i64 c) := by simp
  have k2 : (w.alloc (.cells #[.int .i64 a, .int .i64 c, .int .i64 r, .int .i64 y] 26)).cell? ⟨w.heap.size, 2, none⟩ = some (.int .i64 r) := by simp
  have k3 : (w.alloc (.cells #[.int .i64 a, .int .i64 c, .int .i64 r, .int .i64 y] 26)).cell? ⟨w.heap.size, 3, none⟩ = some (.int .i64 y) := by simp
  have kd : (w.alloc (.cells #[.int .i64 a, .int .i64 c, .int .i64 r, .int .i64 y] 26)).cell? ⟨d, 0, none⟩ = some (.int .i64 q) := by rw [World.cell?_alloc_lt _ _ _ hdl]; exact hd
  have kdl : d < (w.alloc (.cells #[.int .i64 a, .int .i64 c, .int .i64 r, .int .i64 y] 26)).heap.size := by simp; omega
  clear hd hdl
  have HI0 := Lib.hid hi0
  clear hi0
  generalize w.alloc (.cells #[.int .i64 a, .int .i64 c, .int .i64 r, .int .i64 y] 26) = W at *
  generalize w.heap.size = ob at *
  have hne : ob ≠ b := by omega
  go_loopw [6, 7] (fun p v wr => ∃ (n : Nat) (pl sp x : Int), 0 ≤ pl ∧ pl ≤ way ∧ 0 ≤ sp ∧ sp ≤ 15000 ∧ way - pl ≤ n ∧ Hid (0 ≤ x ∧ x ≤ pl) ∧ Hid (rideF (stFast q) a c r y way n pl sp x = rideF (stFast q) a c r y way way.toNat 0 0 x0) ∧ p = .int .i64 pl ∧ v = .int .i64 sp ∧ OnlyIn b W wr ∧ Hid (Cap wr b x)) (fun p _ _ => (way - intOf p).toNat)
  case atStart => exact ⟨way.toNat, 0, 0, x0, by omega, by omega, by omega, by omega, by omega, HI0, Lib.hid rfl, rfl, rfl, OnlyIn.refl _ _, Lib.hid hC1⟩
  case round =>
    obtain ⟨n, pl, sp, x, h1, h2, h3, h4, h5, HI, HK, rfl, rfl, hOr, HCr⟩ := hrel
    by_cases hlt2 : pl < way
    · obtain ⟨n, rfl⟩ : ∃ n', n = n' + 1 := ⟨n - 1, by omega⟩
      obtain ⟨v0, v1, v2, v3, v4⟩ := nextI_bd (a := a) (c := c) (r := r) (y := y) (speed := sp) (left := way - pl) (by omega) r1 r0 (by omega)
      have hv := v3 (by omega)
      clear v3 v4
      have hs := hOr.size
      have hsz : ob < wr.heap.size := by omega
      have c0' : wr.cell? ⟨ob, 0, none⟩ = some (.int .i64 a) := (hOr.cell (p := ⟨ob, 0, none⟩) hS0 hne).trans k0
      have c1' : wr.cell? ⟨ob, 1, none⟩ = some (.int .i64 c) := (hOr.cell (p := ⟨ob, 1, none⟩) hS0 hne).trans k1
      have c2' : wr.cell? ⟨ob, 2, none⟩ = some (.int .i64 r) := (hOr.cell (p := ⟨ob, 2, none⟩) hS0 hne).trans k2
      have c3' : wr.cell? ⟨ob, 3, none⟩ = some (.int .i64 y) := (hOr.cell (p := ⟨ob, 3, none⟩) hS0 hne).trans k3
      have cd : wr.cell? ⟨d, 0, none⟩ = some (.int .i64 q) := (hOr.cell (p := ⟨d, 0, none⟩) kdl hdb).trans kd
      have cdl : d < wr.heap.size := Nat.lt_of_lt_of_le kdl hOr.size
      clear hs
      have HN := Lib.hid (rideF_go (step := stFast q) (a := a) (c := c) (r := r) (y := y) (way := way) (n := n) (pl := pl) (sp := sp) (s := x) hlt2 rfl)
      go_wp2_with
        (first
          | (go_at_call 36; go_call nextSpeed_c; rintro e wN ⟨rfl, hb⟩)
          | (go_at_call 45; (refine (SecondsFast1_c _ _ q x d b hdb (by have := HI.out; omega) (by have := HI.out; omega) _ (HCr.out.below hb) ((hb.cell (p := ⟨d, 0, none⟩) cdl).trans cd)).mono ?_); rintro e wC ⟨rfl, hCC, hCO⟩))
      go_roundw
      case rel => exact ⟨n, pl + nextI a c r y sp (way - pl), nextI a c r y sp (way - pl), (if q ≤ nextI a c r y sp (way - pl) then x + 1 else x), by omega, by omega, by omega, by omega, by omega, Lib.hid (by have := HI.out; split <;> omega), Lib.hid (HN.out.symm.trans HK.out), rfl, rfl, (hOr.then_ (OnlyIn.of_below hb)).then_ hCO, Lib.hid hCC⟩
      case measure => simp [intOf]; omega
    · have HE := Lib.hid (show rideF (stFast q) a c r y way n pl sp x = x from rideF_end hlt2)
      go_wp2
      go_end0
      refine ⟨rfl, ?_, hO.then_ hOr⟩
      rw [← HK.out, HE.out]
      exact HCr.out
theorem SecondAt1_c (pl sp q x : Int) (d b : Nat) (hdb : d ≠ b) (x0 : 0 ≤ x) (x1 : x ≤ 3000000) (w : World) (hc : Cap w b x) (hd : w.cell? ⟨d, 0, none⟩ = some (.int .i64 q)) : Calls Try.prog 44 #[.int .i64 pl, .int .i64 sp, .pointer (some ⟨b, 0, none⟩), .pointer (some ⟨d, 0, none⟩)] w (SecPost (decide (pl < q)) b (x + 1) w) := by
  obtain ⟨h1, h2, h3⟩ := hc
  have hbd : b ≠ d := fun h => hdb h.symm
  go_enter Try.func44, Try.ntmps44
  go_wp2
  go_ret
  exact ⟨rfl, ⟨by simp [*, go_sem], by simp [*, go_sem], by simp [*, go_sem]⟩, OnlyIn.set_ _ _ _⟩
theorem SecondAt1_v {pl q : Int} {g : Bool} (hg : decide (pl < q) = g) (sp x : Int) (d b : Nat) (hdb : d ≠ b) (x0 : 0 ≤ x) (x1 : x ≤ 3000000) (w : World) (hc : Cap w b x) (hd : w.cell? ⟨d, 0, none⟩ = some (.int .i64 q)) : Calls Try.prog 44 #[.int .i64 pl, .int .i64 sp, .pointer (some ⟨b, 0, none⟩), .pointer (some ⟨d, 0, none⟩)] w (SecPost g b (x + 1) w) := by
  subst hg
  exact SecondAt1_c pl sp q x d b hdb x0 x1 w hc hd
set_option maxHeartbeats 1000000 in
theorem rideAt_c (a c r y way x0 : Int) (q : Int) (d : Nat) (b : Nat) (hp : profOk a c r y = true) (hw : inB way 0 3000000 = true) (w : World) (hc : Cap w b x0) (hd : w.cell? ⟨d, 0, none⟩ = some (.int .i64 q)) (hdl : d < w.heap.size) (hdb : d ≠ b) (hi0 : 0 ≤ x0 ∧ x0 ≤ 0) : Calls Try.prog 39 #[.agg #[.int .i64 a, .int .i64 c, .int .i64 r, .int .i64 y], .int .i64 way, .func (.func 44) #[] #[.pointer (some ⟨b, 0, none⟩), .pointer (some ⟨d, 0, none⟩)]] w fun e w' => e = .returned (.tuple #[]) ∧ Cap w' b (rideF (stAt q) a c r y way way.toNat 0 0 x0) ∧ OnlyIn b w w' := by
  obtain ⟨⟨a0, a1⟩, ⟨c0, c1⟩, ⟨r0, r1⟩, ⟨y0, y1⟩⟩ := profOk_true hp
  obtain ⟨w0, w1⟩ := inB_true hw
  have hlt := hc.2.2
  have HC := Lib.hid hc
  clear hp hw hc
  go_enter Try.func39, Try.ntmps39
  go_wp2
  have hO : OnlyIn b w (w.alloc (.cells #[.int .i64 a, .int .i64 c, .int .i64 r, .int .i64 y] 26)) := OnlyIn.of_below ((Below.refl _ _).alloc (Nat.le_refl _) _)
  have hC1 : Cap (w.alloc (.cells #[.int .i64 a, .int .i64 c, .int .i64 r, .int .i64 y] 26)) b x0 := HC.out.below ((Below.refl _ _).alloc (Nat.le_refl _) _)
  have hS0 : w.heap.size < (w.alloc (.cells #[.int .i64 a, .int .i64 c, .int .i64 r, .int .i64 y] 26)).heap.size := by simp
  have k0 : (w.alloc (.cells #[.int .i64 a, .int .i64 c, .int .i64 r, .int .i64 y] 26)).cell? ⟨w.heap.size, 0, none⟩ = some (.int .i64 a) := by simp
  have k1 : (w.alloc (.cells #[.int .i64 a, .int .i64 c, .int .i64 r, .int .i64 y] 26)).cell? ⟨w.heap.size, 1, none⟩ = some (.int .i64 c) := by simp
  have k2 : (w.alloc (.cells #[.int .i64 a, .int .i64 c, .int .i64 r, .int .i64 y] 26)).cell? ⟨w.heap.size, 2, none⟩ = some (.int .i64 r) := by simp
  have k3 : (w.alloc (.cells #[.int .i64 a, .int .i64 c, .int .i64 r, .int .i64 y] 26)).cell? ⟨w.heap.size, 3, none⟩ = some (.int .i64 y) := by simp
  have kd : (w.alloc (.cells #[.int .i64 a, .int .i64 c, .int .i64 r, .int .i64 y] 26)).cell? ⟨d, 0, none⟩ = some (.int .i64 q) := by rw [World.cell?_alloc_lt _ _ _ hdl]; exact hd
  have kdl : d < (w.alloc (.cells #[.int .i64 a, .int .i64 c, .int .i64 r, .int .i64 y] 26)).heap.size := by simp; omega
  clear hd hdl
  have HI0 := Lib.hid hi0
  clear hi0
  generalize w.alloc (.cells #[.int .i64 a, .int .i64 c, .int .i64 r, .int .i64 y] 26) = W at *
  generalize w.heap.size = ob at *
  have hne : ob ≠ b := by omega
  go_loopw [6, 7] (fun p v wr => ∃ (n : Nat) (pl sp x : Int), 0 ≤ pl ∧ pl ≤ way ∧ 0 ≤ sp ∧ sp ≤ 15000 ∧ way - pl ≤ n ∧ Hid (0 ≤ x ∧ x ≤ pl) ∧ Hid (rideF (stAt q) a c r y way n pl sp x = rideF (stAt q) a c r y way way.toNat 0 0 x0) ∧ p = .int .i64 pl ∧ v = .int .i64 sp ∧ OnlyIn b W wr ∧ Hid (Cap wr b x)) (fun p _ _ => (way - intOf p).toNat)
  case atStart => exact ⟨way.toNat, 0, 0, x0, by omega, by omega, by omega, by omega, by omega, HI0, Lib.hid rfl, rfl, rfl, OnlyIn.refl _ _, Lib.hid hC1⟩
  case round =>
    obtain ⟨n, pl, sp, x, h1, h2, h3, h4, h5, HI, HK, rfl, rfl, hOr, HCr⟩ := hrel
    by_cases hlt2 : pl < way
    · obtain ⟨n, rfl⟩ : ∃ n', n = n' + 1 := ⟨n - 1, by omega⟩
      obtain ⟨v0, v1, v2, v3, v4⟩ := nextI_bd (a := a) (c := c) (r := r) (y := y) (speed := sp) (left := way - pl) (by omega) r1 r0 (by omega)
      have hv := v3 (by omega)
      clear v3 v4
      have hs := hOr.size
      have hsz : ob < wr.heap.size := by omega
      have c0' : wr.cell? ⟨ob, 0, none⟩ = some (.int .i64 a) := (hOr.cell (p := ⟨ob, 0, none⟩) hS0 hne).trans k0
      have c1' : wr.cell? ⟨ob, 1, none⟩ = some (.int .i64 c) := (hOr.cell (p := ⟨ob, 1, none⟩) hS0 hne).trans k1
      have c2' : wr.cell? ⟨ob, 2, none⟩ = some (.int .i64 r) := (hOr.cell (p := ⟨ob, 2, none⟩) hS0 hne).trans k2
      have c3' : wr.cell? ⟨ob, 3, none⟩ = some (.int .i64 y) := (hOr.cell (p := ⟨ob, 3, none⟩) hS0 hne).trans k3
      have cd : wr.cell? ⟨d, 0, none⟩ = some (.int .i64 q) := (hOr.cell (p := ⟨d, 0, none⟩) kdl hdb).trans kd
      have cdl : d < wr.heap.size := Nat.lt_of_lt_of_le kdl hOr.size
      clear hs
      cases hg : decide (pl + nextI a c r y sp (way - pl) < q)
      ·
        have HN := Lib.hid (rideF_stop (step := stAt q) (a := a) (c := c) (r := r) (y := y) (way := way) (n := n) (pl := pl) (sp := sp) (s := x) hlt2 hg)
        go_wp2_with
          (first
            | (go_at_call 36; go_call nextSpeed_c; rintro e wN ⟨rfl, hb⟩)
            | (go_at_call 44; (refine (SecondAt1_v hg _ x d b hdb (by have := HI.out; omega) (by have := HI.out; omega) _ (HCr.out.below hb) ((hb.cell (p := ⟨d, 0, none⟩) cdl).trans cd)).mono ?_); rintro e wC ⟨rfl, hCC, hCO⟩))
        go_returns
        refine ⟨rfl, ?_, (hO.then_ (hOr.then_ (OnlyIn.of_below hb))).then_ hCO⟩
        rw [← HK.out, HN.out]
        exact hCC
      ·
        have HN := Lib.hid (rideF_go (step := stAt q) (a := a) (c := c) (r := r) (y := y) (way := way) (n := n) (pl := pl) (sp := sp) (s := x) hlt2 hg)
        go_wp2_with
          (first
            | (go_at_call 36; go_call nextSpeed_c; rintro e wN ⟨rfl, hb⟩)
            | (go_at_call 44; (refine (SecondAt1_v hg _ x d b hdb (by have := HI.out; omega) (by have := HI.out; omega) _ (HCr.out.below hb) ((hb.cell (p := ⟨d, 0, none⟩) cdl).trans cd)).mono ?_); rintro e wC ⟨rfl, hCC, hCO⟩))
        go_roundw
        case rel => exact ⟨n, pl + nextI a c r y sp (way - pl), nextI a c r y sp (way - pl), x + 1, by omega, by omega, by omega, by omega, by omega, Lib.hid (by have := HI.out; omega), Lib.hid (HN.out.symm.trans HK.out), rfl, rfl, (hOr.then_ (OnlyIn.of_below hb)).then_ hCO, Lib.hid hCC⟩
        case measure => simp [intOf]; omega
    · have HE := Lib.hid (show rideF (stAt q) a c r y way n pl sp x = x from rideF_end hlt2)
      go_wp2
      go_end0
      refine ⟨rfl, ?_, hO.then_ hOr⟩
      rw [← HK.out, HE.out]
      exact HCr.out
end Go.Proofs.Ytmmabkmcgffnpaa
