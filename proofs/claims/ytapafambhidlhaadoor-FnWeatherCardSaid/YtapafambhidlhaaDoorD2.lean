/- Draws of hours and of limits. -/
import Derived.Test.YtapafambhidlhaaDoorD
namespace Go.Proofs.YtapafambhidlhaaDoor
open Go.ChangeShapes Go.WideShapes Go.ChangeAt Go.RowKit
set_option linter.unusedVariables false
set_option linter.unusedSimpArgs false

theorem grown_alloc {w w' : World} {k : Option Nat} (h : w.grownBy w' k) (o : Obj) : w.grownBy (w'.alloc o) k :=
  grown_trans h ⟨rfl, rfl, rfl, by simp, fun j hj _ => by
    have : (w'.heap.push o)[j]? = w'.heap[j]? := by rw [Array.getElem?_push_lt hj, Array.getElem?_eq_getElem hj]
    exact this⟩
theorem grown_setNew {w w' : World} {k : Option Nat} (h : w.grownBy w' k) {b : Nat} (hb : w.heap.size ≤ b) (j : Nat) (v : Value) : w.grownBy (w'.setCell ⟨b, j, none⟩ v) k :=
  ⟨h.os, h.tape, h.output, by simpa using h.size, fun i hi hne => (heap_setCell_other w' ⟨b, j, none⟩ i v (by show i ≠ b; omega)).trans (h.block i hi hne)⟩
theorem grown_of_below {w w' : World} {k : Option Nat} (h : Below w.heap.size w w') : w.grownBy w' k := ⟨h.os, h.tape, h.output, h.size, fun i hi _ => h.block i hi⟩
/-- A block with three numbers of the call's own. -/
def Box3 (b : Nat) (w : World) (r d x : Int) : Prop := b < w.heap.size ∧ w.cell? ⟨b, 0, none⟩ = some (.int .i64 r) ∧ w.cell? ⟨b, 1, none⟩ = some (.int .i64 d) ∧ w.cell? ⟨b, 2, none⟩ = some (.int .i64 x) ∧ ∀ j, w.frozen? ⟨b, j, none⟩ = false
theorem Box3.kept {b p : Nat} {w w' : World} {r d x : Int} (h : Box3 b w r d x) (hG : w.grownBy w' (some p)) (hne : b ≠ p) : Box3 b w' r d x := by
  obtain ⟨h0, c0, c1, c2, hf⟩ := h
  have hb := hG.block b h0 (fun e => hne (by injection e))
  exact ⟨Nat.lt_of_lt_of_le h0 hG.size, (World.cell?_of_block (a := ⟨b, 0, none⟩) hb).trans c0, (World.cell?_of_block (a := ⟨b, 1, none⟩) hb).trans c1, (World.cell?_of_block (a := ⟨b, 2, none⟩) hb).trans c2, fun j => (World.frozen?_of_block (a := ⟨b, j, none⟩) hb).trans (hf j)⟩
theorem Box3.other {b b' : Nat} {w : World} {r d x : Int} (h : Box3 b w r d x) (hne : b ≠ b') (j : Nat) (v : Value) : Box3 b (w.setCell ⟨b', j, none⟩ v) r d x := by
  obtain ⟨h0, c0, c1, c2, hf⟩ := h
  have e : ∀ o, (w.setCell ⟨b', j, none⟩ v).cell? ⟨b, o, none⟩ = w.cell? ⟨b, o, none⟩ := fun o => World.cell?_of_block (a := ⟨b, o, none⟩) (heap_setCell_other w ⟨b', j, none⟩ b v hne)
  exact ⟨by simpa using h0, (e 0).trans c0, (e 1).trans c1, (e 2).trans c2, fun i => by simpa using hf i⟩
theorem Box3.set0 {b : Nat} {w : World} {r d x : Int} (h : Box3 b w r d x) (y : Int) : Box3 b (w.setCell ⟨b, 0, none⟩ (.int .i64 y)) y d x := by
  obtain ⟨h0, c0, c1, c2, hf⟩ := h
  refine ⟨by simpa using h0, by simp [c0, go_sem], ?_, ?_, fun i => by simpa using hf i⟩
  · rw [World.cell?_setCell_other _ _ _ _ (by simp), c1]
  · rw [World.cell?_setCell_other _ _ _ _ (by simp), c2]
theorem Box3.set1 {b : Nat} {w : World} {r d x : Int} (h : Box3 b w r d x) (y : Int) : Box3 b (w.setCell ⟨b, 1, none⟩ (.int .i64 y)) r y x := by
  obtain ⟨h0, c0, c1, c2, hf⟩ := h
  refine ⟨by simpa using h0, ?_, by simp [c1, go_sem], ?_, fun i => by simpa using hf i⟩
  · rw [World.cell?_setCell_other _ _ _ _ (by simp), c0]
  · rw [World.cell?_setCell_other _ _ _ _ (by simp), c2]
theorem Box3.set2 {b : Nat} {w : World} {r d x : Int} (h : Box3 b w r d x) (y : Int) : Box3 b (w.setCell ⟨b, 2, none⟩ (.int .i64 y)) r d y := by
  obtain ⟨h0, c0, c1, c2, hf⟩ := h
  refine ⟨by simpa using h0, ?_, ?_, by simp [c2, go_sem], fun i => by simpa using hf i⟩
  · rw [World.cell?_setCell_other _ _ _ _ (by simp), c0]
  · rw [World.cell?_setCell_other _ _ _ _ (by simp), c1]
theorem Box3.new (w : World) (t : TypeId) (r d x : Int) : Box3 w.heap.size (w.alloc (.cells #[.int .i64 r, .int .i64 d, .int .i64 x] t)) r d x := ⟨by simp, by simp, by simp, by simp, fun j => by simp⟩
theorem amongL_c (p k : Nat) (xs : List Int) (hk : k ≤ 900000000) (hx0 : 0 < xs.length) (hx1 : xs.length ≤ 1000) (W : World) (t : TypeId) (b : Nat) (hb : b = W.heap.size) (h : Src p k W) : Calls Tryd.prog 27 #[.pointer (some ⟨p, 0, none⟩), .slice (some ⟨b, 0, none⟩) xs.length xs.length] (W.alloc (.cells (ints xs) t)) fun e w' => (∃ r : Int, e = .returned (.int .i64 r)) ∧ Src p (k + 2) w' ∧ W.grownBy w' (some p) := by
  subst hb
  have hp := h.1
  refine (among_c p k (some ⟨W.heap.size, 0, none⟩) xs.length xs hk hx0 hx1 _ (h.below ((Below.refl _ _).alloc (Nat.le_refl _) _)) (RowI.new W t xs) (fun g o e => by injection e with e; injection e with e _; omega)).mono ?_
  rintro e w' ⟨⟨j, _, rfl⟩, hS, hG⟩
  exact ⟨⟨_, rfl⟩, hS, grown_trans (grown_of_below ((Below.refl _ _).alloc (Nat.le_refl _) _)) hG⟩
theorem amongm1_0_20000_20001_c (p k : Nat) (hk : k ≤ 900000000) (W : World) (b : Nat) (hb : b = W.heap.size) (h : Src p k W) : Calls Tryd.prog 27 #[.pointer (some ⟨p, 0, none⟩), .slice (some ⟨b, 0, none⟩) 4 4] (W.alloc (.cells #[.int .i64 (-1), .int .i64 0, .int .i64 20000, .int .i64 20001] 2)) fun e w' => (∃ r : Int, e = .returned (.int .i64 r)) ∧ Src p (k + 2) w' ∧ W.grownBy w' (some p) :=
  amongL_c p k [(-1), 0, 20000, 20001] hk (by simp) (by simp) W 2 b hb h
theorem amongm1_0_1000_1001_c (p k : Nat) (hk : k ≤ 900000000) (W : World) (b : Nat) (hb : b = W.heap.size) (h : Src p k W) : Calls Tryd.prog 27 #[.pointer (some ⟨p, 0, none⟩), .slice (some ⟨b, 0, none⟩) 4 4] (W.alloc (.cells #[.int .i64 (-1), .int .i64 0, .int .i64 1000, .int .i64 1001] 2)) fun e w' => (∃ r : Int, e = .returned (.int .i64 r)) ∧ Src p (k + 2) w' ∧ W.grownBy w' (some p) :=
  amongL_c p k [(-1), 0, 1000, 1001] hk (by simp) (by simp) W 2 b hb h
theorem amongm401_m400_500_501_c (p k : Nat) (hk : k ≤ 900000000) (W : World) (b : Nat) (hb : b = W.heap.size) (h : Src p k W) : Calls Tryd.prog 27 #[.pointer (some ⟨p, 0, none⟩), .slice (some ⟨b, 0, none⟩) 4 4] (W.alloc (.cells #[.int .i64 (-401), .int .i64 (-400), .int .i64 500, .int .i64 501] 2)) fun e w' => (∃ r : Int, e = .returned (.int .i64 r)) ∧ Src p (k + 2) w' ∧ W.grownBy w' (some p) :=
  amongL_c p k [(-401), (-400), 500, 501] hk (by simp) (by simp) W 2 b hb h
theorem among0_40_150_151_300_c (p k : Nat) (hk : k ≤ 900000000) (W : World) (b : Nat) (hb : b = W.heap.size) (h : Src p k W) : Calls Tryd.prog 27 #[.pointer (some ⟨p, 0, none⟩), .slice (some ⟨b, 0, none⟩) 5 5] (W.alloc (.cells #[.int .i64 0, .int .i64 40, .int .i64 150, .int .i64 151, .int .i64 300] 2)) fun e w' => (∃ r : Int, e = .returned (.int .i64 r)) ∧ Src p (k + 2) w' ∧ W.grownBy w' (some p) :=
  amongL_c p k [0, 40, 150, 151, 300] hk (by simp) (by simp) W 2 b hb h
theorem amongm150_m101_m100_m20_0_10_11_80_200_c (p k : Nat) (hk : k ≤ 900000000) (W : World) (b : Nat) (hb : b = W.heap.size) (h : Src p k W) : Calls Tryd.prog 27 #[.pointer (some ⟨p, 0, none⟩), .slice (some ⟨b, 0, none⟩) 9 9] (W.alloc (.cells #[.int .i64 (-150), .int .i64 (-101), .int .i64 (-100), .int .i64 (-20), .int .i64 0, .int .i64 10, .int .i64 11, .int .i64 80, .int .i64 200] 2)) fun e w' => (∃ r : Int, e = .returned (.int .i64 r)) ∧ Src p (k + 2) w' ∧ W.grownBy w' (some p) :=
  amongL_c p k [(-150), (-101), (-100), (-20), 0, 10, 11, 80, 200] hk (by simp) (by simp) W 2 b hb h
set_option maxRecDepth 100000 in
set_option maxHeartbeats 2000000 in
theorem l08DrawOne_c (p k : Nat) (hk : k ≤ 800000000) (w : World) (h : Src p k w) : Calls Tryd.prog 18 #[.pointer (some ⟨p, 0, none⟩)] w fun e w' => (∃ r d x : Int, e = .returned (.agg #[.int .i64 r, .int .i64 d, .int .i64 x])) ∧ Src p (k + 8) w' ∧ w.grownBy w' (some p) := by
  have hp := h.1
  have HS0 := Lib.hid (h.below ((Below.refl w.heap.size w).alloc (Nat.le_refl _) (.cells #[.int .i64 0, .int .i64 0, .int .i64 0] 25)))
  have g0 : w.grownBy (w.alloc (.cells #[.int .i64 0, .int .i64 0, .int .i64 0] 25)) (some p) := grown_alloc (World.grownBy.refl _ _) _
  have B0 := Lib.hid (Box3.new w 25 0 0 0)
  clear h
  go_enter Tryd.func18, Tryd.ntmps18
  go_wp2_with (go_at_call 31; (with_reducible refine (pick_c p (k) 2 (by omega) (by omega) _ HS0.out).mono ?_); rintro e w1 ⟨⟨r, r0, r1, rfl⟩, hS, hG⟩; have HS1 := Lib.hid hS; have g1 : w.grownBy w1 (some p) := grown_trans g0 hG; have zw1 := g1.size; clear hS; have B0 := Lib.hid (B0.out.kept hG (by omega)))
  go_wp2_with (go_at_call 31; (with_reducible refine (pick_c p (k + 2) 80 (by omega) (by omega) _ HS1.out).mono ?_); rintro e w2 ⟨⟨q, q0, q1, rfl⟩, hS, hG⟩; have HS2 := Lib.hid hS; have g2 : w.grownBy w2 (some p) := grown_trans g1 hG; have zw2 := g2.size; clear hS; have B0 := Lib.hid (B0.out.kept hG (by omega)))
  generalize wrap64 (r * q) = rq at *
  have z2 := g2.size
  have n02' := B0.out.1
  have n02 : ¬ w.heap.size = w2.heap.size := by omega
  have n20 : ¬ w2.heap.size = w.heap.size := by omega
  have B1 := Lib.hid (Box3.new w2 25 rq 0 0)
  go_wp2_with (go_at_call 27; (with_reducible refine (amongm150_m101_m100_m20_0_10_11_80_200_c p (k + 4) (by omega) _ _ (by first | rfl | simp) (HS2.out.below ((Below.refl _ _).alloc (Nat.le_refl _) _))).mono ?_); rintro e w3 ⟨⟨a, rfl⟩, hS, hG⟩; have HS3 := Lib.hid hS; have g3 : w.grownBy w3 (some p) := grown_trans (grown_alloc g2 _) hG; have zw3 := g3.size; clear hS; have B0 := Lib.hid ((B0.out.kept (grown_alloc (World.grownBy.refl _ (some p)) _) (by omega)).kept hG (by omega)); have B1 := Lib.hid (B1.out.kept hG (by omega)); obtain ⟨l1, c10, c11, c12, f1⟩ := B1.out; have f11 := f1 1)
  have HS3' := Lib.hid (HS3.out.other (show p < w2.heap.size by omega) 1 (.int .i64 a))
  have B1' := Lib.hid (B1.out.set1 a)
  have B0' := Lib.hid (B0.out.other n02 1 (.int .i64 a))
  have g3' := grown_setNew g3 (show w.heap.size ≤ w2.heap.size by omega) 1 (.int .i64 a)
  clear c10 c11 c12 f1 f11
  go_wp2_with (go_at_call 27; (with_reducible refine (among0_40_150_151_300_c p (k + 6) (by omega) _ _ (by first | rfl | simp) HS3'.out).mono ?_); rintro e w4 ⟨⟨y, rfl⟩, hS, hG⟩; have HS4 := Lib.hid hS; have g4 : w.grownBy w4 (some p) := grown_trans g3' hG; have zw4 := g4.size; clear hS; have B0 := Lib.hid (B0'.out.kept hG (by omega)); have B1 := Lib.hid (B1'.out.kept hG (by omega)); obtain ⟨l1, c10, c11, c12, f1⟩ := B1.out; have f12 := f1 2; obtain ⟨l0, c00, c01, c02, f0⟩ := B0.out; have f00 := f0 0; have f01 := f0 1; have f02 := f0 2)
  ((try simp only [Exit.inBlock, Exit.then]); first | (refine bodyPost_ret (by simp [results, Tryd.results18, go_sem, *]; try rfl) rfl ?_) | (obtain ⟨u0, q0⟩ : ∃ u, w'.cell? ⟨w.heap.size, 0, none⟩ = some u := ⟨_, by simp [*, go_sem]; rfl⟩; obtain ⟨u1, q1⟩ : ∃ u, w'.cell? ⟨w.heap.size, 1, none⟩ = some u := ⟨_, by simp [*, go_sem]; rfl⟩; obtain ⟨u2, q2⟩ : ∃ u, w'.cell? ⟨w.heap.size, 2, none⟩ = some u := ⟨_, by simp [*, go_sem]; rfl⟩; refine bodyPost_ret (by simp [results, Tryd.results18, go_sem, q0, q1, q2]; try rfl) rfl ?_))
  exact ⟨⟨_, _, _, rfl⟩, (((HS4.out.other (show p < w2.heap.size by omega) _ _).other hp _ _).other hp _ _).other hp _ _, grown_setNew (grown_setNew (grown_setNew (grown_setNew g4 (show w.heap.size ≤ w2.heap.size by omega) _ _) (Nat.le_refl _) _ _) (Nat.le_refl _) _ _) (Nat.le_refl _) _ _⟩
set_option maxRecDepth 100000 in
set_option maxHeartbeats 2000000 in
theorem l08Bent_c (p k : Nat) (hk : k ≤ 800000000) (r d x : Int) (w : World) (h : Src p k w) : Calls Tryd.prog 17 #[.pointer (some ⟨p, 0, none⟩), .agg #[.int .i64 r, .int .i64 d, .int .i64 x]] w fun e w' => (∃ r d x : Int, e = .returned (.agg #[.int .i64 r, .int .i64 d, .int .i64 x])) ∧ Src p (k + 4) w' ∧ w.grownBy w' (some p) := by
  have hp := h.1
  have HS0 := Lib.hid ((h.below ((Below.refl w.heap.size w).alloc (Nat.le_refl _) (.cells #[.int .i64 r, .int .i64 d, .int .i64 x] 25))).below ((Below.refl _ _).alloc (Nat.le_refl _) (.cells #[.int .i64 0, .int .i64 0, .int .i64 0] 25)))
  have g0 : w.grownBy ((w.alloc (.cells #[.int .i64 r, .int .i64 d, .int .i64 x] 25)).alloc (.cells #[.int .i64 0, .int .i64 0, .int .i64 0] 25)) (some p) := grown_alloc (grown_alloc (World.grownBy.refl _ _) _) _
  have B0 := Lib.hid ((Box3.new w 25 r d x).kept (grown_alloc (World.grownBy.refl _ (some p)) (.cells #[.int .i64 0, .int .i64 0, .int .i64 0] 25)) (by omega))
  have B1 := Lib.hid (Box3.new (w.alloc (.cells #[.int .i64 r, .int .i64 d, .int .i64 x] 25)) 25 0 0 0)
  rw [World.size_alloc] at B1
  clear h
  go_enter Tryd.func17, Tryd.ntmps17
  go_wp2_with (first | (go_at_call 31; (with_reducible refine (pick_c p (k) 20 (by omega) (by omega) _ HS0.out).mono ?_); rintro e w1 ⟨⟨q, q0, q1, rfl⟩, hS, hG⟩; have HS1 := Lib.hid hS; have g1 : w.grownBy w1 (some p) := grown_trans g0 hG; have zw1 := g1.size; clear hS; have B0 := Lib.hid (B0.out.kept hG (by omega)); have B1 := Lib.hid (B1.out.kept hG (by omega)); obtain ⟨l0, c00, c01, c02, f0⟩ := B0.out; obtain ⟨l1, c10, c11, c12, f1⟩ := B1.out; have f00 := f0 0; have f01 := f0 1; have f02 := f0 2; have f10 := f1 0; have f11 := f1 1; have f12 := f1 2) | (go_at_call 27; (with_reducible refine (amongm1_0_1000_1001_c p (k + 2) (by omega) _ _ (by first | rfl | simp) HS1.out).mono ?_); rintro e w2 ⟨⟨a, rfl⟩, hS, hG⟩; have HS2 := Lib.hid hS; have g2 : w.grownBy w2 (some p) := grown_trans g1 hG; have zw2 := g2.size; clear hS; have B0 := Lib.hid (B0.out.kept hG (by omega)); have B1 := Lib.hid (B1.out.kept hG (by omega)); obtain ⟨l0, c00, c01, c02, f0⟩ := B0.out; obtain ⟨l1, c10, c11, c12, f1⟩ := B1.out; have f00 := f0 0; have f01 := f0 1; have f02 := f0 2; have f10 := f1 0; have f11 := f1 1; have f12 := f1 2) | (go_at_call 27; (with_reducible refine (amongm401_m400_500_501_c p (k + 2) (by omega) _ _ (by first | rfl | simp) HS1.out).mono ?_); rintro e w2 ⟨⟨a, rfl⟩, hS, hG⟩; have HS2 := Lib.hid hS; have g2 : w.grownBy w2 (some p) := grown_trans g1 hG; have zw2 := g2.size; clear hS; have B0 := Lib.hid (B0.out.kept hG (by omega)); have B1 := Lib.hid (B1.out.kept hG (by omega)); obtain ⟨l0, c00, c01, c02, f0⟩ := B0.out; obtain ⟨l1, c10, c11, c12, f1⟩ := B1.out; have f00 := f0 0; have f01 := f0 1; have f02 := f0 2; have f10 := f1 0; have f11 := f1 1; have f12 := f1 2))
  all_goals
    have hp1 : p < w.heap.size + 1 := by omega
    have hb1 : w.heap.size ≤ w.heap.size + 1 := by omega
    ((try simp only [Exit.inBlock, Exit.then]); first | (refine bodyPost_ret (by simp [results, Tryd.results17, go_sem, *]; try rfl) rfl ?_) | (obtain ⟨u0, q0⟩ : ∃ u, w'.cell? ⟨w.heap.size + 1, 0, none⟩ = some u := ⟨_, by simp [*, go_sem]; rfl⟩; obtain ⟨u1, q1⟩ : ∃ u, w'.cell? ⟨w.heap.size + 1, 1, none⟩ = some u := ⟨_, by simp [*, go_sem]; rfl⟩; obtain ⟨u2, q2⟩ : ∃ u, w'.cell? ⟨w.heap.size + 1, 2, none⟩ = some u := ⟨_, by simp [*, go_sem]; rfl⟩; refine bodyPost_ret (by simp [results, Tryd.results17, go_sem, q0, q1, q2]; try rfl) rfl ?_))
    refine ⟨⟨_, _, _, rfl⟩, ?_, ?_⟩
    · first
        | exact (((HS2.out.other hp _ _).other hp1 _ _).other hp1 _ _).other hp1 _ _
        | exact (((HS1.out.mono (by omega)).other hp1 _ _).other hp1 _ _).other hp1 _ _
    · first
        | exact grown_setNew (grown_setNew (grown_setNew (grown_setNew g2 (Nat.le_refl _) _ _) hb1 _ _) hb1 _ _) hb1 _ _
        | exact grown_setNew (grown_setNew (grown_setNew g1 hb1 _ _) hb1 _ _) hb1 _ _
theorem l00From_c (A : Option Addr) (n c : Nat) (hn : n ≤ 1048576) (w : World) (hr : RowB w A n) : Calls Tryd.prog 16 #[.slice A n c] w fun e w' => e = .returned (.pointer (some ⟨w.heap.size, 0, none⟩)) ∧ Src w.heap.size 0 w' ∧ Below w.heap.size w w' := by
  go_enter Tryd.func16, Tryd.ntmps16
  go_wp2
  go_returns
  refine ⟨by simp, ⟨by simp, A, n, c, 0, 0, hn, by omega, by omega, by omega, by omega, by simp, by simp, by simp, fun j => by simp, hr.below ((Below.refl _ _).alloc (Nat.le_refl _) _), fun hn b off e => by obtain ⟨b', off', e', hb, _⟩ := hr hn; rw [e] at e'; injection e' with e'; injection e' with e1; omega⟩, (Below.refl _ _).alloc (Nat.le_refl _) _⟩
end Go.Proofs.YtapafambhidlhaaDoor
