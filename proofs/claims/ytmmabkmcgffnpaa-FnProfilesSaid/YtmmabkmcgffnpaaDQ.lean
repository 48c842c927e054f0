/- Draws of profiles; numbers from bytes. -/
import Derived.Test.YtmmabkmcgffnpaaD
import Derived.Test.YtmmabkmcgffnpaaV
namespace Go.Proofs.Ytmmabkmcgffnpaa
open Go.ChangeShapes Go.WideShapes Go.ChangeAt Go.RowKit
set_option linter.unusedVariables false
set_option linter.unusedSimpArgs false

theorem grown_alloc {w w' : World} {k : Option Nat} (h : w.grownBy w' k) (o : Obj) : w.grownBy (w'.alloc o) k :=
  grown_trans h ⟨rfl, rfl, rfl, by simp, fun j hj _ => by
    have : (w'.heap.push o)[j]? = w'.heap[j]? := by rw [Array.getElem?_push_lt hj, Array.getElem?_eq_getElem hj]
    exact this⟩
theorem grown_setNew {w w' : World} {k : Option Nat} (h : w.grownBy w' k) {b : Nat} (hb : w.heap.size ≤ b) (j : Nat) (v : Value) : w.grownBy (w'.setCell ⟨b, j, none⟩ v) k :=
  ⟨h.os, h.tape, h.output, by simpa using h.size, fun i hi hne => (heap_setCell_other w' ⟨b, j, none⟩ i v (by show i ≠ b; omega)).trans (h.block i hi hne)⟩
theorem grown_of_below {w w' : World} {k : Option Nat} (h : Below w.heap.size w w') : w.grownBy w' k := ⟨h.os, h.tape, h.output, h.size, fun i hi _ => h.block i hi⟩
theorem l00From_c (A : Option Addr) (n c : Nat) (hn : n ≤ 1048576) (w : World) (hr : RowB w A n) : Calls Try.prog 49 #[.slice A n c] w fun e w' => e = .returned (.pointer (some ⟨w.heap.size, 0, none⟩)) ∧ Src w.heap.size 0 w' ∧ Below w.heap.size w w' := by
  go_enter Try.func49, Try.ntmps49
  go_wp2
  go_returns
  refine ⟨by simp, ⟨by simp, A, n, c, 0, 0, hn, by omega, by omega, by omega, by omega, by simp, by simp, by simp, fun j => by simp, hr.below ((Below.refl _ _).alloc (Nat.le_refl _) _), fun hn b off e => by obtain ⟨b', off', e', hb, _⟩ := hr hn; rw [e] at e'; injection e' with e'; injection e' with e1; omega⟩, (Below.refl _ _).alloc (Nat.le_refl _) _⟩
/-- A block with four numbers of the call's own. -/
def Box4 (b : Nat) (w : World) (r d x y : Int) : Prop := b < w.heap.size ∧ w.cell? ⟨b, 0, none⟩ = some (.int .i64 r) ∧ w.cell? ⟨b, 1, none⟩ = some (.int .i64 d) ∧ w.cell? ⟨b, 2, none⟩ = some (.int .i64 x) ∧ w.cell? ⟨b, 3, none⟩ = some (.int .i64 y) ∧ ∀ j, w.frozen? ⟨b, j, none⟩ = false
theorem Box4.kept {b p : Nat} {w w' : World} {r d x y : Int} (h : Box4 b w r d x y) (hG : w.grownBy w' (some p)) (hne : b ≠ p) : Box4 b w' r d x y := by
  obtain ⟨h0, c0, c1, c2, c3, hf⟩ := h
  have hb := hG.block b h0 (fun e => hne (by injection e))
  exact ⟨Nat.lt_of_lt_of_le h0 hG.size, (World.cell?_of_block (a := ⟨b, 0, none⟩) hb).trans c0, (World.cell?_of_block (a := ⟨b, 1, none⟩) hb).trans c1, (World.cell?_of_block (a := ⟨b, 2, none⟩) hb).trans c2, (World.cell?_of_block (a := ⟨b, 3, none⟩) hb).trans c3, fun j => (World.frozen?_of_block (a := ⟨b, j, none⟩) hb).trans (hf j)⟩
theorem Box4.below {b : Nat} {w w' : World} {r d x y : Int} (h : Box4 b w r d x y) (hb : Below w.heap.size w w') : Box4 b w' r d x y := by
  have h0 := h.1
  exact h.kept (p := w.heap.size) (grown_of_below hb) (by omega)
theorem Box4.other {b b' : Nat} {w : World} {r d x y : Int} (h : Box4 b w r d x y) (hne : b ≠ b') (j : Nat) (v : Value) : Box4 b (w.setCell ⟨b', j, none⟩ v) r d x y := by
  obtain ⟨h0, c0, c1, c2, c3, hf⟩ := h
  have e : ∀ o, (w.setCell ⟨b', j, none⟩ v).cell? ⟨b, o, none⟩ = w.cell? ⟨b, o, none⟩ := fun o => World.cell?_of_block (a := ⟨b, o, none⟩) (heap_setCell_other w ⟨b', j, none⟩ b v hne)
  exact ⟨by simpa using h0, (e 0).trans c0, (e 1).trans c1, (e 2).trans c2, (e 3).trans c3, fun i => by simpa using hf i⟩
theorem Box4.set1 {b : Nat} {w : World} {r d x y : Int} (h : Box4 b w r d x y) (u : Int) : Box4 b (w.setCell ⟨b, 1, none⟩ (.int .i64 u)) r u x y := by
  obtain ⟨h0, c0, c1, c2, c3, hf⟩ := h
  refine ⟨by simpa using h0, ?_, by simp [c1, go_sem], ?_, ?_, fun i => by simpa using hf i⟩
  · rw [World.cell?_setCell_other _ _ _ _ (by simp), c0]
  · rw [World.cell?_setCell_other _ _ _ _ (by simp), c2]
  · rw [World.cell?_setCell_other _ _ _ _ (by simp), c3]
theorem Box4.new (w : World) (t : TypeId) (r d x y : Int) : Box4 w.heap.size (w.alloc (.cells #[.int .i64 r, .int .i64 d, .int .i64 x, .int .i64 y] t)) r d x y := ⟨by simp, by simp, by simp, by simp, by simp, fun j => by simp⟩
set_option maxRecDepth 100000 in
set_option maxHeartbeats 2000000 in
theorem l09Draw_c (p k : Nat) (hk : k ≤ 800000000) (w : World) (h : Src p k w) : Calls Try.prog 50 #[.pointer (some ⟨p, 0, none⟩)] w fun e w' => (∃ a c r y : Int, e = .returned (.agg #[.int .i64 a, .int .i64 c, .int .i64 r, .int .i64 y]) ∧ (100 ≤ a ∧ a ≤ 490) ∧ (2000 ≤ c ∧ c ≤ 9900) ∧ (300 ≤ r ∧ r ≤ 800) ∧ 0 ≤ y ∧ y ≤ 3500) ∧ Src p (k + 8) w' ∧ w.grownBy w' (some p) := by
  have hp := h.1
  have HS0 := Lib.hid (h.below ((Below.refl w.heap.size w).alloc (Nat.le_refl _) (.cells #[.int .i64 0, .int .i64 0, .int .i64 0, .int .i64 0] 26)))
  have g0 : w.grownBy (w.alloc (.cells #[.int .i64 0, .int .i64 0, .int .i64 0, .int .i64 0] 26)) (some p) := grown_alloc (World.grownBy.refl _ _) _
  have B0 := Lib.hid (Box4.new w 26 0 0 0 0)
  clear h
  go_enter Try.func50, Try.ntmps50
  go_wp2_with (go_at_call 58; (with_reducible refine (pick_c p (k) 40 (by omega) (by omega) _ HS0.out).mono ?_); rintro e w1 ⟨⟨r, r0, r1, rfl⟩, hS, hG⟩; have HS1 := Lib.hid hS; have g1 : w.grownBy w1 (some p) := grown_trans g0 hG; have zw1 := g1.size; clear hS; have B0 := Lib.hid (B0.out.kept hG (by omega)); have r2 : r ≤ 39 := (by omega))
  go_wp2_with (go_at_call 58; (with_reducible refine (pick_c p (k + 2) 6 (by omega) (by omega) _ HS1.out).mono ?_); rintro e w2 ⟨⟨q, q0, q1, rfl⟩, hS, hG⟩; have HS2 := Lib.hid hS; have g2 : w.grownBy w2 (some p) := grown_trans g1 hG; have zw2 := g2.size; clear hS; have B0 := Lib.hid (B0.out.kept hG (by omega)); have q2 : q ≤ 5 := (by omega))
  have z2 := g2.size
  have n02' := B0.out.1
  have n02 : ¬ w.heap.size = w2.heap.size := by omega
  have n20 : ¬ w2.heap.size = w.heap.size := by omega
  generalize hA : 100 + 10 * r = a at *
  generalize hC : 300 + 100 * q = d at *
  have B1 := Lib.hid (Box4.new w2 26 a 0 d 0)
  go_wp2_with (go_at_call 58; (with_reducible refine (pick_c p (k + 4) 80 (by omega) (by omega) _ (HS2.out.below ((Below.refl _ _).alloc (Nat.le_refl _) _))).mono ?_); rintro e w3 ⟨⟨u, u0, u1, rfl⟩, hS, hG⟩; have HS3 := Lib.hid hS; have g3 : w.grownBy w3 (some p) := grown_trans (grown_alloc g2 _) hG; have zw3 := g3.size; clear hS; have B0 := Lib.hid ((B0.out.kept (grown_alloc (World.grownBy.refl _ (some p)) _) (by omega)).kept hG (by omega)); have u2 : u ≤ 79 := (by omega); have B1 := Lib.hid (B1.out.kept hG (by omega)); obtain ⟨l1, c10, c11, c12, c13, f1⟩ := B1.out; have f11 := f1 1)
  generalize hE : 2000 + 100 * u = c at *
  have HS3' := Lib.hid (HS3.out.other (show p < w2.heap.size by omega) 1 (.int .i64 c))
  have B1' := Lib.hid (B1.out.set1 c)
  have B0' := Lib.hid (B0.out.other n02 1 (.int .i64 c))
  have g3' := grown_setNew g3 (show w.heap.size ≤ w2.heap.size by omega) 1 (.int .i64 c)
  clear c10 c11 c12 c13 f1 f11
  go_wp2_with (go_at_call 58; (with_reducible refine (pick_c p (k + 6) 8 (by omega) (by omega) _ HS3'.out).mono ?_); rintro e w4 ⟨⟨x, x0, x1, rfl⟩, hS, hG⟩; have HS4 := Lib.hid hS; have g4 : w.grownBy w4 (some p) := grown_trans g3' hG; have zw4 := g4.size; clear hS; have x2 : x ≤ 7 := (by omega); have B0 := Lib.hid (B0'.out.kept hG (by omega)); have B1 := Lib.hid (B1'.out.kept hG (by omega)); obtain ⟨l1, c10, c11, c12, c13, f1⟩ := B1.out; have f13 := f1 3; obtain ⟨l0, c00, c01, c02, c03, f0⟩ := B0.out; have f00 := f0 0; have f01 := f0 1; have f02 := f0 2; have f03 := f0 3)
  ((try simp only [Exit.inBlock, Exit.then]); first | (refine bodyPost_ret (by simp [results, Try.results50, go_sem, *]; try rfl) rfl ?_) | (obtain ⟨u0, q0⟩ : ∃ u, w'.cell? ⟨w.heap.size, 0, none⟩ = some u := ⟨_, by simp [*, go_sem]; rfl⟩; obtain ⟨u1, q1⟩ : ∃ u, w'.cell? ⟨w.heap.size, 1, none⟩ = some u := ⟨_, by simp [*, go_sem]; rfl⟩; obtain ⟨u2, q2⟩ : ∃ u, w'.cell? ⟨w.heap.size, 2, none⟩ = some u := ⟨_, by simp [*, go_sem]; rfl⟩; obtain ⟨u3, q3⟩ : ∃ u, w'.cell? ⟨w.heap.size, 3, none⟩ = some u := ⟨_, by simp [*, go_sem]; rfl⟩; refine bodyPost_ret (by simp [results, Try.results50, go_sem, q0, q1, q2, q3]; try rfl) rfl ?_))
  exact ⟨⟨_, _, _, _, rfl, by omega, by omega, by omega, by omega⟩, ((((HS4.out.other (show p < w2.heap.size by omega) _ _).other hp _ _).other hp _ _).other hp _ _).other hp _ _, grown_setNew (grown_setNew (grown_setNew (grown_setNew (grown_setNew g4 (show w.heap.size ≤ w2.heap.size by omega) _ _) (Nat.le_refl _) _ _) (Nat.le_refl _) _ _) (Nat.le_refl _) _ _) (Nat.le_refl _) _ _⟩
set_option maxRecDepth 100000 in
set_option maxHeartbeats 2000000 in
theorem R8Profile_c (A : Option Addr) (n c : Nat) (hn : n ≤ 1048576) (w : World) (hr : RowB w A n) : Calls Try.prog 27 #[.slice A n c] w fun e w' => (∃ a c r y : Int, e = .returned (.agg #[.int .i64 a, .int .i64 c, .int .i64 r, .int .i64 y]) ∧ (100 ≤ a ∧ a ≤ 490) ∧ (2000 ≤ c ∧ c ≤ 9900) ∧ (300 ≤ r ∧ r ≤ 800) ∧ 0 ≤ y ∧ y ≤ 3500) ∧ Below w.heap.size w w' := by
  have hB0 : Below w.heap.size w (w.alloc (.cells #[.int .i64 0, .int .i64 0, .int .i64 0, .int .i64 0] 26)) := (Below.refl _ _).alloc (Nat.le_refl _) _
  have B0 := Lib.hid (Box4.new w 26 0 0 0 0)
  have hr0 := hr.below hB0
  have zz : (w.alloc (.cells #[.int .i64 0, .int .i64 0, .int .i64 0, .int .i64 0] 26)).heap.size = w.heap.size + 1 := by simp
  generalize hW : w.alloc (.cells #[.int .i64 0, .int .i64 0, .int .i64 0, .int .i64 0] 26) = W at hB0 B0 hr0 zz
  go_enter Try.func27, Try.ntmps27
  go_wp2_with (first
    | (go_at_call 49; (with_reducible refine (l00From_c A n c hn _ hr0).mono ?_); rintro e w0 ⟨rfl, hS, hB⟩; have HS0 := Lib.hid (show Src (w.heap.size + 1) 0 w0 by rw [← zz]; exact hS); have HB0 := Lib.hid (hB0.trans (hB.mono (by omega))); have B1 := Lib.hid (B0.out.kept (grown_of_below (k := some (w.heap.size + 1)) hB) (by omega)); have z0 := hB.size; clear hS)
    | (go_at_call 50; (with_reducible refine (l09Draw_c _ 0 (by omega) _ HS0.out).mono ?_); rintro e w1 ⟨⟨a1, c1, r1, y1, rfl, q1, q2, q3, q4, q5⟩, hS, hG⟩; have HB1 := Lib.hid (below_grown HB0.out hG (by omega) (by omega)); have B2 := Lib.hid (B1.out.kept hG (by omega)); have z1 := hG.size; clear hS; obtain ⟨m1, c80, c81, c82, c83, f8⟩ := B2.out; have f80 := f8 0; have f81 := f8 1; have f82 := f8 2; have f83 := f8 3))
  ((try simp only [Exit.inBlock, Exit.then]); first | (refine bodyPost_ret (by simp [results, Try.results27, go_sem, *]; try rfl) rfl ?_) | (obtain ⟨u0, q0⟩ : ∃ u, w'.cell? ⟨w.heap.size, 0, none⟩ = some u := ⟨_, by simp [*, go_sem]; rfl⟩; obtain ⟨u1, q1⟩ : ∃ u, w'.cell? ⟨w.heap.size, 1, none⟩ = some u := ⟨_, by simp [*, go_sem]; rfl⟩; obtain ⟨u2, q2⟩ : ∃ u, w'.cell? ⟨w.heap.size, 2, none⟩ = some u := ⟨_, by simp [*, go_sem]; rfl⟩; obtain ⟨u3, q3⟩ : ∃ u, w'.cell? ⟨w.heap.size, 3, none⟩ = some u := ⟨_, by simp [*, go_sem]; rfl⟩; refine bodyPost_ret (by simp [results, Try.results27, go_sem, q0, q1, q2, q3]; try rfl) rfl ?_))
  exact ⟨⟨_, _, _, _, rfl, q1, q2, q3, q4, q5⟩, (((HB1.out.setCell (Nat.le_refl _) _).setCell (Nat.le_refl _) _).setCell (Nat.le_refl _) _).setCell (Nat.le_refl _) _⟩
theorem r8At_c (A : Option Addr) (n c : Nat) (k : Int) (hn : n ≤ 1048576) (k0 : 0 ≤ k) (k1 : k ≤ 1000) (w : World) (hr : RowB w A n) : Calls Try.prog 51 #[.slice A n c, .int .i64 k, .int .i64 256] w fun e w' => (∃ r : Int, 0 ≤ r ∧ r ≤ 255 ∧ e = .returned (.int .i64 r)) ∧ w = w' := by
  by_cases hl : k < n
  · obtain ⟨b, off, rfl, hb, hc⟩ := hr (by omega)
    obtain ⟨i, rfl⟩ : ∃ i : Nat, k = i := ⟨k.toNat, by omega⟩
    obtain ⟨y, y0, y1, hy⟩ := hc i (by omega)
    have hl' : ¬ (n : Int) ≤ i := by omega
    have e1 : y % 256 = y := Int.emod_eq_of_lt y0 (by omega)
    go_enter Try.func51, Try.ntmps51
    go_wp2
    go_returns
    exact ⟨⟨y, y0, y1, by simp [e1]⟩, rfl⟩
  · have hl' : (n : Int) ≤ k := by omega
    go_enter Try.func51, Try.ntmps51
    go_wp2
    go_returns
    exact ⟨⟨0, by omega, by omega, by simp⟩, rfl⟩
theorem r8Wide_c (A : Option Addr) (n c : Nat) (k N : Int) (hn : n ≤ 1048576) (k0 : 0 ≤ k) (k1 : k ≤ 900) (N0 : 1 ≤ N) (N1 : N ≤ 1000000) (w : World) (hr : RowB w A n) : Calls Try.prog 28 #[.slice A n c, .int .i64 k, .int .i64 N] w fun e w' => (∃ r : Int, 0 ≤ r ∧ r < N ∧ e = .returned (.int .i64 r)) ∧ w = w' := by
  have n0 : ¬ N = 0 := by omega
  go_enter Try.func28, Try.ntmps28
  go_wp2_with (first
    | (go_at_call 51; (with_reducible refine (r8At_c A n c k hn k0 (by omega) _ hr).mono ?_); rintro e w' ⟨⟨r, r0, r1, rfl⟩, rfl⟩)
    | (go_at_call 51; (with_reducible refine (r8At_c A n c (k + 1) hn (by omega) (by omega) _ hr).mono ?_); rintro e w' ⟨⟨q, q0, q1, rfl⟩, rfl⟩))
  have m0 := Int.emod_nonneg (256 * r + q) n0
  have m1 := Int.emod_lt_of_pos (256 * r + q) (show 0 < N by omega)
  go_returns
  exact ⟨⟨_, m0, m1, by simp⟩, rfl⟩
theorem r8Long_n {n m : Nat} (h : n ≤ 1048576) (h' : m ≤ 1048576) (A C : Option Addr) (c c' : Nat) (w : World) : Calls Try.prog 26 #[.slice A n c, .slice C m c'] w fun e w' => e = .returned (.bool false) ∧ w = w' := by
  have h1 : ¬ (1048576 : Int) < n := by omega
  have h2 : ¬ (1048576 : Int) < m := by omega
  go_enter Try.func26, Try.ntmps26
  go_wp2
  go_ret
  simp
theorem r8Long_y {n m : Nat} (h : 1048576 < n ∨ 1048576 < m) (A C : Option Addr) (c c' : Nat) (w : World) : Calls Try.prog 26 #[.slice A n c, .slice C m c'] w fun e w' => e = .returned (.bool true) ∧ w = w' := by
  by_cases h1 : 1048576 < n
  · have h1' : (1048576 : Int) < n := by omega
    go_enter Try.func26, Try.ntmps26
    go_wp2
    go_ret
    simp
  · have h1' : ¬ (1048576 : Int) < n := by omega
    have h2' : (1048576 : Int) < m := by omega
    go_enter Try.func26, Try.ntmps26
    go_wp2
    go_ret
    simp
end Go.Proofs.Ytmmabkmcgffnpaa
