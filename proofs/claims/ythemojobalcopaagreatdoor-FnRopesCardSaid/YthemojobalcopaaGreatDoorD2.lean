/- Draws of hours and of limits. -/
import Derived.Test.YthemojobalcopaaGreatDoorD
namespace Go.Proofs.YthemojobalcopaaGreatDoor
open Go.ChangeShapes Go.WideShapes Go.ChangeAt Go.RowKit
set_option linter.unusedVariables false
set_option linter.unusedSimpArgs false

theorem grown_alloc {w w' : World} {k : Option Nat} (h : w.grownBy w' k) (o : Obj) : w.grownBy (w'.alloc o) k :=
  grown_trans h ⟨rfl, rfl, rfl, by simp, fun j hj _ => by
    have : (w'.heap.push o)[j]? = w'.heap[j]? := by rw [Array.getElem?_push_lt hj, Array.getElem?_eq_getElem hj]
    exact this⟩
theorem grown_setNew {w w' : World} {k : Option Nat} (h : w.grownBy w' k) {b : Nat} (hb : w.heap.size ≤ b) (j : Nat) (v : Value) : w.grownBy (w'.setCell ⟨b, j, none⟩ v) k :=
  ⟨h.os, h.tape, h.output, by simpa using h.size, fun i hi hne => (heap_setCell_other w' ⟨b, j, none⟩ i v (by show i ≠ b; omega)).trans (h.block i hi hne)⟩
theorem grown_of_below {w w' : World} {k : Option Nat} (h : Below w.heap.size w w') : w.grownBy w' k := ⟨h.os, h.tape, h.output, h.size, fun i hi _ => h.block i hi⟩
/-- A block with three numbers of the call's own. -/
def Box3 (b : Nat) (w : World) (r d x : Int) : Prop := b < w.heap.size ∧ w.cell? ⟨b, 0, none⟩ = some (.int .i64 r) ∧ w.cell? ⟨b, 1, none⟩ = some (.int .i64 d) ∧ w.cell? ⟨b, 2, none⟩ = some (.int .i64 x) ∧ ∀ j, w.frozen? ⟨b, j, none⟩ = false
theorem Box3.kept {b p : Nat} {w w' : World} {r d x : Int} (h : Box3 b w r d x) (hG : w.grownBy w' (some p)) (hne : b ≠ p) : Box3 b w' r d x := by
  obtain ⟨h0, c0, c1, c2, hf⟩ := h
  have hb := hG.block b h0 (fun e => hne (by injection e))
  exact ⟨Nat.lt_of_lt_of_le h0 hG.size, (World.cell?_of_block (a := ⟨b, 0, none⟩) hb).trans c0, (World.cell?_of_block (a := ⟨b, 1, none⟩) hb).trans c1, (World.cell?_of_block (a := ⟨b, 2, none⟩) hb).trans c2, fun j => (World.frozen?_of_block (a := ⟨b, j, none⟩) hb).trans (hf j)⟩
theorem Box3.other {b b' : Nat} {w : World} {r d x : Int} (h : Box3 b w r d x) (hne : b ≠ b') (j : Nat) (v : Value) : Box3 b (w.setCell ⟨b', j, none⟩ v) r d x := by
  obtain ⟨h0, c0, c1, c2, hf⟩ := h
  have e : ∀ o, (w.setCell ⟨b', j, none⟩ v).cell? ⟨b, o, none⟩ = w.cell? ⟨b, o, none⟩ := fun o => World.cell?_of_block (a := ⟨b, o, none⟩) (heap_setCell_other w ⟨b', j, none⟩ b v hne)
  exact ⟨by simpa using h0, (e 0).trans c0, (e 1).trans c1, (e 2).trans c2, fun i => by simpa using hf i⟩
theorem Box3.set0 {b : Nat} {w : World} {r d x : Int} (h : Box3 b w r d x) (y : Int) : Box3 b (w.setCell ⟨b, 0, none⟩ (.int .i64 y)) y d x := by
  obtain ⟨h0, c0, c1, c2, hf⟩ := h
  refine ⟨by simpa using h0, by simp [c0, go_sem], ?_, ?_, fun i => by simpa using hf i⟩
  · rw [World.cell?_setCell_other _ _ _ _ (by simp), c1]
  · rw [World.cell?_setCell_other _ _ _ _ (by simp), c2]
theorem Box3.set1 {b : Nat} {w : World} {r d x : Int} (h : Box3 b w r d x) (y : Int) : Box3 b (w.setCell ⟨b, 1, none⟩ (.int .i64 y)) r y x := by
  obtain ⟨h0, c0, c1, c2, hf⟩ := h
  refine ⟨by simpa using h0, ?_, by simp [c1, go_sem], ?_, fun i => by simpa using hf i⟩
  · rw [World.cell?_setCell_other _ _ _ _ (by simp), c0]
  · rw [World.cell?_setCell_other _ _ _ _ (by simp), c2]
theorem Box3.set2 {b : Nat} {w : World} {r d x : Int} (h : Box3 b w r d x) (y : Int) : Box3 b (w.setCell ⟨b, 2, none⟩ (.int .i64 y)) r d y := by
  obtain ⟨h0, c0, c1, c2, hf⟩ := h
  refine ⟨by simpa using h0, ?_, ?_, by simp [c2, go_sem], fun i => by simpa using hf i⟩
  · rw [World.cell?_setCell_other _ _ _ _ (by simp), c0]
  · rw [World.cell?_setCell_other _ _ _ _ (by simp), c1]
theorem Box3.new (w : World) (t : TypeId) (r d x : Int) : Box3 w.heap.size (w.alloc (.cells #[.int .i64 r, .int .i64 d, .int .i64 x] t)) r d x := ⟨by simp, by simp, by simp, by simp, fun j => by simp⟩
theorem amongL_c (p k : Nat) (xs : List Int) (hk : k ≤ 900000000) (hx0 : 0 < xs.length) (hx1 : xs.length ≤ 1000) (W : World) (t : TypeId) (b : Nat) (hb : b = W.heap.size) (h : Src p k W) : Calls Tryz.prog 22 #[.pointer (some ⟨p, 0, none⟩), .slice (some ⟨b, 0, none⟩) xs.length xs.length] (W.alloc (.cells (ints xs) t)) fun e w' => (∃ r : Int, e = .returned (.int .i64 r)) ∧ Src p (k + 2) w' ∧ W.grownBy w' (some p) := by
  subst hb
  have hp := h.1
  refine (among_c p k (some ⟨W.heap.size, 0, none⟩) xs.length xs hk hx0 hx1 _ (h.below ((Below.refl _ _).alloc (Nat.le_refl _) _)) (RowI.new W t xs) (fun g o e => by injection e with e; injection e with e _; omega)).mono ?_
  rintro e w' ⟨⟨j, _, rfl⟩, hS, hG⟩
  exact ⟨⟨_, rfl⟩, hS, grown_trans (grown_of_below ((Below.refl _ _).alloc (Nat.le_refl _) _)) hG⟩
theorem amongm1_0_20000_20001_c (p k : Nat) (hk : k ≤ 900000000) (W : World) (b : Nat) (hb : b = W.heap.size) (h : Src p k W) : Calls Tryz.prog 22 #[.pointer (some ⟨p, 0, none⟩), .slice (some ⟨b, 0, none⟩) 4 4] (W.alloc (.cells #[.int .i64 (-1), .int .i64 0, .int .i64 20000, .int .i64 20001] 2)) fun e w' => (∃ r : Int, e = .returned (.int .i64 r)) ∧ Src p (k + 2) w' ∧ W.grownBy w' (some p) :=
  amongL_c p k [(-1), 0, 20000, 20001] hk (by simp) (by simp) W 2 b hb h
theorem amongm1_0_1000_1001_c (p k : Nat) (hk : k ≤ 900000000) (W : World) (b : Nat) (hb : b = W.heap.size) (h : Src p k W) : Calls Tryz.prog 22 #[.pointer (some ⟨p, 0, none⟩), .slice (some ⟨b, 0, none⟩) 4 4] (W.alloc (.cells #[.int .i64 (-1), .int .i64 0, .int .i64 1000, .int .i64 1001] 2)) fun e w' => (∃ r : Int, e = .returned (.int .i64 r)) ∧ Src p (k + 2) w' ∧ W.grownBy w' (some p) :=
  amongL_c p k [(-1), 0, 1000, 1001] hk (by simp) (by simp) W 2 b hb h
theorem amongm401_m400_500_501_c (p k : Nat) (hk : k ≤ 900000000) (W : World) (b : Nat) (hb : b = W.heap.size) (h : Src p k W) : Calls Tryz.prog 22 #[.pointer (some ⟨p, 0, none⟩), .slice (some ⟨b, 0, none⟩) 4 4] (W.alloc (.cells #[.int .i64 (-401), .int .i64 (-400), .int .i64 500, .int .i64 501] 2)) fun e w' => (∃ r : Int, e = .returned (.int .i64 r)) ∧ Src p (k + 2) w' ∧ W.grownBy w' (some p) :=
  amongL_c p k [(-401), (-400), 500, 501] hk (by simp) (by simp) W 2 b hb h
theorem among0_40_150_151_300_c (p k : Nat) (hk : k ≤ 900000000) (W : World) (b : Nat) (hb : b = W.heap.size) (h : Src p k W) : Calls Tryz.prog 22 #[.pointer (some ⟨p, 0, none⟩), .slice (some ⟨b, 0, none⟩) 5 5] (W.alloc (.cells #[.int .i64 0, .int .i64 40, .int .i64 150, .int .i64 151, .int .i64 300] 2)) fun e w' => (∃ r : Int, e = .returned (.int .i64 r)) ∧ Src p (k + 2) w' ∧ W.grownBy w' (some p) :=
  amongL_c p k [0, 40, 150, 151, 300] hk (by simp) (by simp) W 2 b hb h
theorem amongm150_m101_m100_m20_0_10_11_80_200_c (p k : Nat) (hk : k ≤ 900000000) (W : World) (b : Nat) (hb : b = W.heap.size) (h : Src p k W) : Calls Tryz.prog 22 #[.pointer (some ⟨p, 0, none⟩), .slice (some ⟨b, 0, none⟩) 9 9] (W.alloc (.cells #[.int .i64 (-150), .int .i64 (-101), .int .i64 (-100), .int .i64 (-20), .int .i64 0, .int .i64 10, .int .i64 11, .int .i64 80, .int .i64 200] 2)) fun e w' => (∃ r : Int, e = .returned (.int .i64 r)) ∧ Src p (k + 2) w' ∧ W.grownBy w' (some p) :=
  amongL_c p k [(-150), (-101), (-100), (-20), 0, 10, 11, 80, 200] hk (by simp) (by simp) W 2 b hb h
theorem l00From_c (A : Option Addr) (n c : Nat) (hn : n ≤ 1048576) (w : World) (hr : RowB w A n) : Calls Tryz.prog 20 #[.slice A n c] w fun e w' => e = .returned (.pointer (some ⟨w.heap.size, 0, none⟩)) ∧ Src w.heap.size 0 w' ∧ Below w.heap.size w w' := by
  go_enter Tryz.func20, Tryz.ntmps20
  go_wp2
  go_returns
  refine ⟨by simp, ⟨by simp, A, n, c, 0, 0, hn, by omega, by omega, by omega, by omega, by simp, by simp, by simp, fun j => by simp, hr.below ((Below.refl _ _).alloc (Nat.le_refl _) _), fun hn b off e => by obtain ⟨b', off', e', hb, _⟩ := hr hn; rw [e] at e'; injection e' with e'; injection e' with e1; omega⟩, (Below.refl _ _).alloc (Nat.le_refl _) _⟩
end Go.Proofs.YthemojobalcopaaGreatDoor
