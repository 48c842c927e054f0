/- The place and the speed of a ride after some seconds: the ride with three captured variables, and its law. -/
import Derived.Test.YtmmabkmcgffnpaaO4
namespace Go.Proofs.Ytmmabkmcgffnpaa
open Go.ChangeShapes Go.WideShapes Go.ChangeAt Go.RowKit
set_option linter.unusedVariables false
set_option linter.unusedSimpArgs false

/-- The world w' is w with new blocks, and with writes to the blocks from lo to hi alone. -/
structure OnlyR (lo hi : Nat) (w w' : World) : Prop where
  os : w'.os = w.os
  tape : w'.tape = w.tape
  output : w'.output = w.output
  size : w.heap.size ≤ w'.heap.size
  block : ∀ k, k < w.heap.size → ¬ (lo ≤ k ∧ k < hi) → w'.heap[k]? = w.heap[k]?
theorem OnlyR.refl (lo hi : Nat) (w : World) : OnlyR lo hi w w := ⟨rfl, rfl, rfl, Nat.le_refl _, fun _ _ _ => rfl⟩
theorem OnlyR.then_ {lo hi : Nat} {w w' w'' : World} (h : OnlyR lo hi w w') (k : OnlyR lo hi w' w'') : OnlyR lo hi w w'' :=
  ⟨k.os.trans h.os, k.tape.trans h.tape, k.output.trans h.output, Nat.le_trans h.size k.size, fun i hi' hne => (k.block i (Nat.lt_of_lt_of_le hi' h.size) hne).trans (h.block i hi' hne)⟩
theorem OnlyR.of_below {lo hi : Nat} {w w' : World} (h : Below w.heap.size w w') : OnlyR lo hi w w' := ⟨h.os, h.tape, h.output, h.size, fun i hi' _ => h.block i hi'⟩
theorem OnlyR.set_ {lo hi b : Nat} (w : World) (o : Nat) (u : Value) (h : lo ≤ b ∧ b < hi) : OnlyR lo hi w (w.setCell ⟨b, o, none⟩ u) :=
  ⟨rfl, rfl, rfl, by simp, fun i hi' hne => Below.heap_setCell w ⟨b, o, none⟩ u i (by rintro rfl; exact hne h)⟩
theorem OnlyR.below {lo hi B : Nat} {w w' : World} (h : OnlyR lo hi w w') (hb : B ≤ lo) (hB : B ≤ w.heap.size) : Below B w w' := ⟨h.os, h.tape, h.output, h.size, fun i hi' => h.block i (by omega) (by omega)⟩
theorem OnlyR.cell {lo hi : Nat} {w w' : World} (h : OnlyR lo hi w w') {p : Addr} (hp : p.block < w.heap.size) (hne : ¬ (lo ≤ p.block ∧ p.block < hi)) : w'.cell? p = w.cell? p := World.cell?_of_block (h.block p.block hp hne)
/-- Three captured variables, in three blocks in a row. -/
def Cap3 (w : World) (b : Nat) (x : Int × Int × Int) : Prop := Cap w b x.1 ∧ Cap w (b + 1) x.2.1 ∧ Cap w (b + 2) x.2.2
theorem Cap3.below {w w' : World} {b : Nat} {x : Int × Int × Int} (h : Cap3 w b x) (hb : Below w.heap.size w w') : Cap3 w' b x := ⟨h.1.below hb, h.2.1.below hb, h.2.2.below hb⟩
def SecPost3 (go : Bool) (b : Nat) (x : Int × Int × Int) (w : World) (e : Ending) (w' : World) : Prop := e = .returned (.bool go) ∧ Cap3 w' b x ∧ OnlyR b (b + 3) w w'
/-- What a second keeps: the place, the speed, and how many seconds are left. -/
def stPlace (pl v : Int) (s : Int × Int × Int) : (Int × Int × Int) × Bool := if 0 < s.2.2 then ((pl, v, s.2.2 - 1), decide (0 < s.2.2 - 1)) else (s, false)
/-- The place and the speed some seconds after a place and a speed. -/
def afterF (a c r y way : Int) : Nat → Int → Int → Int × Int
  | 0, pl, sp => (pl, sp)
  | n + 1, pl, sp => if pl = way then (way, 0) else afterF a c r y way n (pl + nextI a c r y sp (way - pl)) (nextI a c r y sp (way - pl))
section
variable {a c r y way : Int} {n : Nat} {pl sp : Int}
theorem afterF_end (h : pl = way) : afterF a c r y way (n + 1) pl sp = (way, 0) := by rw [afterF, if_pos h]
theorem afterF_on (h : ¬ pl = way) : afterF a c r y way (n + 1) pl sp = afterF a c r y way n (pl + nextI a c r y sp (way - pl)) (nextI a c r y sp (way - pl)) := by rw [afterF, if_neg h]
end
def fPlace (sec a c r y way : Int) : Int × Int := afterF a c r y way sec.toNat 0 0
/-- What the program makes of the three captured variables. -/
def endPl (s : Int × Int × Int) : Int × Int := (s.1, if 0 < s.2.2 then 0 else s.2.1)
theorem ride_after {a c r y way : Int} (a0 : 0 ≤ a) (h0 : r ≤ c) (r0 : 100 ≤ r) : ∀ (n : Nat) (pl sp : Int) (k : Nat), pl ≤ way → way - pl ≤ n → endPl (rideF stPlace a c r y way n pl sp (pl, sp, (k + 1 : Nat))) = afterF a c r y way (k + 1) pl sp := by
  intro n
  induction n with
  | zero =>
    intro pl sp k h1 h2
    have h : pl = way := by omega
    rw [afterF_end h, rideF]
    simp [endPl, h] <;> omega
  | succ n ih =>
    intro pl sp k h1 h2
    by_cases h : pl = way
    · rw [afterF_end h, rideF_end (by omega)]
      simp [endPl, h] <;> omega
    · obtain ⟨v0, v1, _, v3, _⟩ := nextI_bd (a := a) (c := c) (r := r) (y := y) (speed := sp) (left := way - pl) a0 h0 r0 (by omega)
      have hv := v3 (by omega)
      rw [afterF_on h]
      cases k with
      | zero =>
        rw [rideF_stop (by omega) (by simp [stPlace])]
        simp [stPlace, endPl, afterF]
      | succ k =>
        rw [rideF_go (by omega) (by simp only [stPlace]; rw [if_pos (by omega)]; simp <;> omega)]
        have e : (stPlace (pl + nextI a c r y sp (way - pl)) (nextI a c r y sp (way - pl)) (pl, sp, ((k + 1 + 1 : Nat) : Int))).1 = (pl + nextI a c r y sp (way - pl), nextI a c r y sp (way - pl), ((k + 1 : Nat) : Int)) := by
          have h5 : (0 : Int) < ((k + 1 + 1 : Nat) : Int) := by omega
          simp only [stPlace]
          rw [if_pos h5]
          have h6 : ((k + 1 + 1 : Nat) : Int) - 1 = ((k + 1 : Nat) : Int) := by omega
          simp only [h6]
        rw [e, ih _ _ k (by omega) (by omega)]
theorem PlaceAfter1_c (pl sp at_ pace left : Int) (b : Nat) (hl : 0 < left) (hl1 : left ≤ 3000000) (w : World) (hc : Cap3 w b (at_, pace, left)) : Calls Try.prog 47 #[.int .i64 pl, .int .i64 sp, .pointer (some ⟨b + 2, 0, none⟩), .pointer (some ⟨b, 0, none⟩), .pointer (some ⟨b + 1, 0, none⟩)] w (SecPost3 (decide (0 < left - 1)) b (pl, sp, left - 1) w) := by
  obtain ⟨⟨h1, h2, h3⟩, ⟨h4, h5, h6⟩, h7, h8, h9⟩ := hc
  simp only at h1 h4 h7
  go_enter Try.func47, Try.ntmps47
  go_wp2
  go_ret
  refine ⟨by simp, ⟨⟨by simp [*, go_sem], by simp [*, go_sem], by simp [*, go_sem]⟩, ⟨by simp [*, go_sem], by simp [*, go_sem], by simp [*, go_sem]⟩, ⟨by simp [*, go_sem], by simp [*, go_sem], by simp [*, go_sem]⟩⟩, ?_⟩
  exact ((OnlyR.set_ _ _ _ (by omega)).then_ (OnlyR.set_ _ _ _ (by omega))).then_ (OnlyR.set_ _ _ _ (by omega))
theorem PlaceAfter1_n (pl sp at_ pace left : Int) (b : Nat) (hl : left = 0) (w : World) (hc : Cap3 w b (at_, pace, left)) : Calls Try.prog 47 #[.int .i64 pl, .int .i64 sp, .pointer (some ⟨b + 2, 0, none⟩), .pointer (some ⟨b, 0, none⟩), .pointer (some ⟨b + 1, 0, none⟩)] w (SecPost3 false b (at_, pace, left) w) := by
  subst hl
  have hc' := hc
  obtain ⟨⟨h1, h2, h3⟩, ⟨h4, h5, h6⟩, h7, h8, h9⟩ := hc
  simp only at h1 h4 h7
  go_enter Try.func47, Try.ntmps47
  go_wp2
  go_ret
  exact ⟨by simp, hc', OnlyR.refl _ _ _⟩
theorem PlaceAfter1_v {left : Int} {g : Bool} (hg : decide (0 < left - 1) = g) (pl sp at_ pace : Int) (b : Nat) (hl : 0 < left) (hl1 : left ≤ 3000000) (w : World) (hc : Cap3 w b (at_, pace, left)) : Calls Try.prog 47 #[.int .i64 pl, .int .i64 sp, .pointer (some ⟨b + 2, 0, none⟩), .pointer (some ⟨b, 0, none⟩), .pointer (some ⟨b + 1, 0, none⟩)] w (SecPost3 g b (pl, sp, left - 1) w) := by
  subst hg
  exact PlaceAfter1_c pl sp at_ pace left b hl hl1 w hc
set_option maxHeartbeats 1000000 in
theorem ridePlace_c (a c r y way sec : Int) (b : Nat) (hp : profOk a c r y = true) (hw : inB way 0 3000000 = true) (w : World) (hc : Cap3 w b (0, 0, sec)) (sec0 : 0 ≤ sec) (sec1 : sec ≤ 3000000) : Calls Try.prog 39 #[.agg #[.int .i64 a, .int .i64 c, .int .i64 r, .int .i64 y], .int .i64 way, .func (.func 47) #[] #[.pointer (some ⟨b + 2, 0, none⟩), .pointer (some ⟨b, 0, none⟩), .pointer (some ⟨b + 1, 0, none⟩)]] w fun e w' => e = .returned (.tuple #[]) ∧ Cap3 w' b (rideF stPlace a c r y way way.toNat 0 0 (0, 0, sec)) ∧ OnlyR b (b + 3) w w' := by
  obtain ⟨⟨a0, a1⟩, ⟨c0, c1⟩, ⟨r0, r1⟩, ⟨y0, y1⟩⟩ := profOk_true hp
  obtain ⟨w0, w1⟩ := inB_true hw
  have hlt := hc.2.2.2.2
  have HC := Lib.hid hc
  clear hp hw hc
  go_enter Try.func39, Try.ntmps39
  go_wp2
  have hO : OnlyR b (b + 3) w (w.alloc (.cells #[.int .i64 a, .int .i64 c, .int .i64 r, .int .i64 y] 26)) := OnlyR.of_below ((Below.refl _ _).alloc (Nat.le_refl _) _)
  have hC1 : Cap3 (w.alloc (.cells #[.int .i64 a, .int .i64 c, .int .i64 r, .int .i64 y] 26)) b (0, 0, sec) := HC.out.below ((Below.refl _ _).alloc (Nat.le_refl _) _)
  have hS0 : w.heap.size < (w.alloc (.cells #[.int .i64 a, .int .i64 c, .int .i64 r, .int .i64 y] 26)).heap.size := by simp
  have k0 : (w.alloc (.cells #[.int .i64 a, .int .i64 c, .int .i64 r, .int .i64 y] 26)).cell? ⟨w.heap.size, 0, none⟩ = some (.int .i64 a) := by simp
  have k1 : (w.alloc (.cells #[.int .i64 a, .int .i64 c, .int .i64 r, .int .i64 y] 26)).cell? ⟨w.heap.size, 1, none⟩ = some (.int .i64 c) := by simp
  have k2 : (w.alloc (.cells #[.int .i64 a, .int .i64 c, .int .i64 r, .int .i64 y] 26)).cell? ⟨w.heap.size, 2, none⟩ = some (.int .i64 r) := by simp
  have k3 : (w.alloc (.cells #[.int .i64 a, .int .i64 c, .int .i64 r, .int .i64 y] 26)).cell? ⟨w.heap.size, 3, none⟩ = some (.int .i64 y) := by simp
  generalize w.alloc (.cells #[.int .i64 a, .int .i64 c, .int .i64 r, .int .i64 y] 26) = W at *
  generalize w.heap.size = ob at *
  have hne : ¬ (b ≤ ob ∧ ob < b + 3) := by omega
  go_loopw [6, 7] (fun p v wr => ∃ (n : Nat) (pl sp ax px lx : Int), 0 ≤ pl ∧ pl ≤ way ∧ 0 ≤ sp ∧ sp ≤ 15000 ∧ way - pl ≤ n ∧ 0 ≤ lx ∧ lx ≤ 3000000 ∧ Hid (rideF stPlace a c r y way n pl sp (ax, px, lx) = rideF stPlace a c r y way way.toNat 0 0 (0, 0, sec)) ∧ p = .int .i64 pl ∧ v = .int .i64 sp ∧ OnlyR b (b + 3) W wr ∧ Hid (Cap3 wr b (ax, px, lx))) (fun p _ _ => (way - intOf p).toNat)
  case atStart => exact ⟨way.toNat, 0, 0, 0, 0, sec, by omega, by omega, by omega, by omega, by omega, by omega, by omega, Lib.hid rfl, rfl, rfl, OnlyR.refl _ _ _, Lib.hid hC1⟩
  case round =>
    obtain ⟨n, pl, sp, ax, px, lx, h1, h2, h3, h4, h5, l0, l1, HK, rfl, rfl, hOr, HCr⟩ := hrel
    by_cases hlt2 : pl < way
    · obtain ⟨n, rfl⟩ : ∃ n', n = n' + 1 := ⟨n - 1, by omega⟩
      obtain ⟨v0, v1, v2, v3, v4⟩ := nextI_bd (a := a) (c := c) (r := r) (y := y) (speed := sp) (left := way - pl) (by omega) r1 r0 (by omega)
      have hv := v3 (by omega)
      clear v3 v4
      have hs := hOr.size
      have hsz : ob < wr.heap.size := by omega
      have c0' : wr.cell? ⟨ob, 0, none⟩ = some (.int .i64 a) := (hOr.cell (p := ⟨ob, 0, none⟩) hS0 hne).trans k0
      have c1' : wr.cell? ⟨ob, 1, none⟩ = some (.int .i64 c) := (hOr.cell (p := ⟨ob, 1, none⟩) hS0 hne).trans k1
      have c2' : wr.cell? ⟨ob, 2, none⟩ = some (.int .i64 r) := (hOr.cell (p := ⟨ob, 2, none⟩) hS0 hne).trans k2
      have c3' : wr.cell? ⟨ob, 3, none⟩ = some (.int .i64 y) := (hOr.cell (p := ⟨ob, 3, none⟩) hS0 hne).trans k3
      clear hs
      by_cases hl0 : lx = 0
      ·
        have HN := Lib.hid (rideF_stop (step := stPlace) (a := a) (c := c) (r := r) (y := y) (way := way) (n := n) (pl := pl) (sp := sp) (s := (ax, px, lx)) hlt2 (by simp [stPlace, hl0]))
        have HR := Lib.hid (show (stPlace (pl + nextI a c r y sp (way - pl)) (nextI a c r y sp (way - pl)) (ax, px, lx)).1 = (ax, px, lx) from by simp [stPlace, hl0])
        go_wp2_with
          (first
            | (go_at_call 36; go_call nextSpeed_c; rintro e wN ⟨rfl, hb⟩)
            | (go_at_call 47; (refine (PlaceAfter1_n _ _ ax px lx b hl0 _ (HCr.out.below hb)).mono ?_); rintro e wC ⟨rfl, hCC, hCO⟩))
        go_returns
        refine ⟨rfl, ?_, (hO.then_ (hOr.then_ (OnlyR.of_below hb))).then_ hCO⟩
        rw [← HK.out, HN.out, HR.out]
        exact hCC
      · cases hg : decide (0 < lx - 1)
        ·
          have HN := Lib.hid (rideF_stop (step := stPlace) (a := a) (c := c) (r := r) (y := y) (way := way) (n := n) (pl := pl) (sp := sp) (s := (ax, px, lx)) hlt2 (by simp only [stPlace]; rw [if_pos (by omega)]; exact hg))
          have HR := Lib.hid (show (stPlace (pl + nextI a c r y sp (way - pl)) (nextI a c r y sp (way - pl)) (ax, px, lx)).1 = (pl + nextI a c r y sp (way - pl), nextI a c r y sp (way - pl), lx - 1) from by simp only [stPlace]; rw [if_pos (by omega)])
          go_wp2_with
            (first
              | (go_at_call 36; go_call nextSpeed_c; rintro e wN ⟨rfl, hb⟩)
              | (go_at_call 47; (refine (PlaceAfter1_v hg _ _ ax px b (by omega) l1 _ (HCr.out.below hb)).mono ?_); rintro e wC ⟨rfl, hCC, hCO⟩))
          go_returns
          refine ⟨rfl, ?_, (hO.then_ (hOr.then_ (OnlyR.of_below hb))).then_ hCO⟩
          rw [← HK.out, HN.out, HR.out]
          exact hCC
        ·
          have HN := Lib.hid (rideF_go (step := stPlace) (a := a) (c := c) (r := r) (y := y) (way := way) (n := n) (pl := pl) (sp := sp) (s := (ax, px, lx)) hlt2 (by simp only [stPlace]; rw [if_pos (by omega)]; exact hg))
          have HR := Lib.hid (show (stPlace (pl + nextI a c r y sp (way - pl)) (nextI a c r y sp (way - pl)) (ax, px, lx)).1 = (pl + nextI a c r y sp (way - pl), nextI a c r y sp (way - pl), lx - 1) from by simp only [stPlace]; rw [if_pos (by omega)])
          go_wp2_with
            (first
              | (go_at_call 36; go_call nextSpeed_c; rintro e wN ⟨rfl, hb⟩)
              | (go_at_call 47; (refine (PlaceAfter1_v hg _ _ ax px b (by omega) l1 _ (HCr.out.below hb)).mono ?_); rintro e wC ⟨rfl, hCC, hCO⟩))
          go_roundw
          case rel => exact ⟨n, pl + nextI a c r y sp (way - pl), nextI a c r y sp (way - pl), pl + nextI a c r y sp (way - pl), nextI a c r y sp (way - pl), lx - 1, by omega, by omega, by omega, by omega, by omega, by omega, by omega, Lib.hid (by rw [← HR.out]; exact HN.out.symm.trans HK.out), rfl, rfl, (hOr.then_ (OnlyR.of_below hb)).then_ hCO, Lib.hid hCC⟩
          case measure => simp [intOf]; omega
    · have HE := Lib.hid (show rideF stPlace a c r y way n pl sp (ax, px, lx) = (ax, px, lx) from rideF_end hlt2)
      go_wp2
      go_end0
      refine ⟨rfl, ?_, hO.then_ hOr⟩
      rw [← HK.out, HE.out]
      exact HCr.out
theorem l09After_c (a c r y way sec : Int) (hp : profOk a c r y = true) (hw : inB way 0 3000000 = true) (hs : inB sec 0 3000000 = true) (b : Nat) (w : World) (h0 : w.cell? ⟨b, 0, none⟩ = some (.int .i64 a)) (h1 : w.cell? ⟨b, 1, none⟩ = some (.int .i64 c)) (h2 : w.cell? ⟨b, 2, none⟩ = some (.int .i64 r)) (h3 : w.cell? ⟨b, 3, none⟩ = some (.int .i64 y)) : Calls Try.prog 46 #[.pointer (some ⟨b, 0, none⟩), .int .i64 way, .int .i64 sec] w fun e w' => e = .returned (.tuple #[.int .i64 (fPlace sec a c r y way).1, .int .i64 (fPlace sec a c r y way).2]) ∧ ∃ n, w' = w.drewN n := by
  obtain ⟨⟨a0, a1⟩, ⟨c0, c1⟩, ⟨r0, r1⟩, ⟨y0, y1⟩⟩ := profOk_true hp
  obtain ⟨w0, w1⟩ := inB_true hw
  obtain ⟨s0, s1⟩ := inB_true hs
  clear hp hw hs
  go_enter Try.func46, Try.ntmps46
  go_wp2
  go_loopw [8, 9, 10] (fun v l x wr => ∃ (n k : Nat) (pl sp : Int), 0 ≤ pl ∧ pl ≤ way ∧ 0 ≤ sp ∧ sp ≤ 15000 ∧ k + n = sec.toNat ∧ Hid (afterF a c r y way n pl sp = fPlace sec a c r y way) ∧ l = .int .i64 pl ∧ v = .int .i64 sp ∧ x = .int .i64 k ∧ ∃ n, wr = w.drewN n) (fun _ _ x _ => (sec - intOf x).toNat)
  case atStart => exact ⟨sec.toNat, 0, 0, 0, by omega, by omega, by omega, by omega, by omega, Lib.hid rfl, rfl, rfl, rfl, (by first | exact ⟨_, rfl⟩ | exact ⟨_, World.drewN_drewN _ _ _⟩ | exact ⟨0, rfl⟩)⟩
  case round =>
    obtain ⟨n, k, pl, sp, h4, h5, h6, h7, h8, HK, rfl, rfl, rfl, m, rfl⟩ := hrel
    by_cases hlt : (k : Int) < sec
    · obtain ⟨n, rfl⟩ : ∃ n', n = n' + 1 := ⟨n - 1, by omega⟩
      by_cases he : pl = way
      · have HE := Lib.hid (afterF_end (a := a) (c := c) (r := r) (y := y) (n := n) (sp := sp) he)
        go_wp2
        go_ret2
        exact ⟨by (rw [← HK.out, HE.out]) <;> rfl, (by first | exact ⟨_, rfl⟩ | exact ⟨_, World.drewN_drewN _ _ _⟩ | exact ⟨0, rfl⟩)⟩
      · obtain ⟨v0, v1, v2, v3, v4⟩ := nextI_bd (a := a) (c := c) (r := r) (y := y) (speed := sp) (left := way - pl) (by omega) r1 r0 (by omega)
        clear v3 v4
        have HN := Lib.hid (afterF_on (a := a) (c := c) (r := r) (y := y) (n := n) (sp := sp) he)
        go_wp2_with
          (first
            | (go_at_call 32; go_call (l09Next_c a c r y); rintro e w' ⟨rfl, nq, rfl⟩))
        go_roundw
        case rel => exact ⟨n, k + 1, pl + nextI a c r y sp (way - pl), nextI a c r y sp (way - pl), by omega, by omega, by omega, by omega, by omega, Lib.hid (HN.out.symm.trans HK.out), rfl, rfl, by go_num, (by first | exact ⟨_, rfl⟩ | exact ⟨_, World.drewN_drewN _ _ _⟩ | exact ⟨0, rfl⟩)⟩
        case measure => simp [intOf]; omega
    · obtain rfl : n = 0 := by omega
      have HE := Lib.hid (show afterF a c r y way 0 pl sp = (pl, sp) from rfl)
      go_wp2
      go_ret2
      exact ⟨by (rw [← HK.out, HE.out]) <;> rfl, (by first | exact ⟨_, rfl⟩ | exact ⟨_, World.drewN_drewN _ _ _⟩ | exact ⟨0, rfl⟩)⟩
end Go.Proofs.Ytmmabkmcgffnpaa
