/- Draws of ropes and of sheaves. -/
import Derived.Test.YthemojobalcopaaGreatDoorWD
namespace Go.Proofs.YthemojobalcopaaGreatDoor
open Go.ChangeShapes Go.WideShapes Go.ChangeAt Go.RowKit
set_option linter.unusedVariables false
set_option linter.unusedSimpArgs false

/-- A block with four numbers of the call's own. -/
def Box4 (b : Nat) (w : World) (r d x y : Int) : Prop := b < w.heap.size ∧ w.cell? ⟨b, 0, none⟩ = some (.int .i64 r) ∧ w.cell? ⟨b, 1, none⟩ = some (.int .i64 d) ∧ w.cell? ⟨b, 2, none⟩ = some (.int .i64 x) ∧ w.cell? ⟨b, 3, none⟩ = some (.int .i64 y) ∧ ∀ j, w.frozen? ⟨b, j, none⟩ = false
theorem Box4.kept {b p : Nat} {w w' : World} {r d x y : Int} (h : Box4 b w r d x y) (hG : w.grownBy w' (some p)) (hne : b ≠ p) : Box4 b w' r d x y := by
  obtain ⟨h0, c0, c1, c2, c3, hf⟩ := h
  have hb := hG.block b h0 (fun e => hne (by injection e))
  exact ⟨Nat.lt_of_lt_of_le h0 hG.size, (World.cell?_of_block (a := ⟨b, 0, none⟩) hb).trans c0, (World.cell?_of_block (a := ⟨b, 1, none⟩) hb).trans c1, (World.cell?_of_block (a := ⟨b, 2, none⟩) hb).trans c2, (World.cell?_of_block (a := ⟨b, 3, none⟩) hb).trans c3, fun j => (World.frozen?_of_block (a := ⟨b, j, none⟩) hb).trans (hf j)⟩
theorem Box4.below {b : Nat} {w w' : World} {r d x y : Int} (h : Box4 b w r d x y) (hb : Below w.heap.size w w') : Box4 b w' r d x y := by
  have h0 := h.1
  exact h.kept (p := w.heap.size) (grown_of_below hb) (by omega)
theorem Box4.other {b b' : Nat} {w : World} {r d x y : Int} (h : Box4 b w r d x y) (hne : b ≠ b') (j : Nat) (v : Value) : Box4 b (w.setCell ⟨b', j, none⟩ v) r d x y := by
  obtain ⟨h0, c0, c1, c2, c3, hf⟩ := h
  have e : ∀ o, (w.setCell ⟨b', j, none⟩ v).cell? ⟨b, o, none⟩ = w.cell? ⟨b, o, none⟩ := fun o => World.cell?_of_block (a := ⟨b, o, none⟩) (heap_setCell_other w ⟨b', j, none⟩ b v hne)
  exact ⟨by simpa using h0, (e 0).trans c0, (e 1).trans c1, (e 2).trans c2, (e 3).trans c3, fun i => by simpa using hf i⟩
theorem Box4.set1 {b : Nat} {w : World} {r d x y : Int} (h : Box4 b w r d x y) (u : Int) : Box4 b (w.setCell ⟨b, 1, none⟩ (.int .i64 u)) r u x y := by
  obtain ⟨h0, c0, c1, c2, c3, hf⟩ := h
  refine ⟨by simpa using h0, ?_, by simp [c1, go_sem], ?_, ?_, fun i => by simpa using hf i⟩
  · rw [World.cell?_setCell_other _ _ _ _ (by simp), c0]
  · rw [World.cell?_setCell_other _ _ _ _ (by simp), c2]
  · rw [World.cell?_setCell_other _ _ _ _ (by simp), c3]
theorem Box4.new (w : World) (t : TypeId) (r d x y : Int) : Box4 w.heap.size (w.alloc (.cells #[.int .i64 r, .int .i64 d, .int .i64 x, .int .i64 y] t)) r d x y := ⟨by simp, by simp, by simp, by simp, by simp, fun j => by simp⟩
theorem Box4.set0 {b : Nat} {w : World} {r d x y : Int} (h : Box4 b w r d x y) (u : Int) : Box4 b (w.setCell ⟨b, 0, none⟩ (.int .i64 u)) u d x y := by
  obtain ⟨h0, c0, c1, c2, c3, hf⟩ := h
  refine ⟨by simpa using h0, by simp [c0, go_sem], ?_, ?_, ?_, fun i => by simpa using hf i⟩
  · rw [World.cell?_setCell_other _ _ _ _ (by simp), c1]
  · rw [World.cell?_setCell_other _ _ _ _ (by simp), c2]
  · rw [World.cell?_setCell_other _ _ _ _ (by simp), c3]
theorem Box4.set2 {b : Nat} {w : World} {r d x y : Int} (h : Box4 b w r d x y) (u : Int) : Box4 b (w.setCell ⟨b, 2, none⟩ (.int .i64 u)) r d u y := by
  obtain ⟨h0, c0, c1, c2, c3, hf⟩ := h
  refine ⟨by simpa using h0, ?_, ?_, by simp [c2, go_sem], ?_, fun i => by simpa using hf i⟩
  · rw [World.cell?_setCell_other _ _ _ _ (by simp), c0]
  · rw [World.cell?_setCell_other _ _ _ _ (by simp), c1]
  · rw [World.cell?_setCell_other _ _ _ _ (by simp), c3]
theorem Box4.set3 {b : Nat} {w : World} {r d x y : Int} (h : Box4 b w r d x y) (u : Int) : Box4 b (w.setCell ⟨b, 3, none⟩ (.int .i64 u)) r d x u := by
  obtain ⟨h0, c0, c1, c2, c3, hf⟩ := h
  refine ⟨by simpa using h0, ?_, ?_, ?_, by simp [c3, go_sem], fun i => by simpa using hf i⟩
  · rw [World.cell?_setCell_other _ _ _ _ (by simp), c0]
  · rw [World.cell?_setCell_other _ _ _ _ (by simp), c1]
  · rw [World.cell?_setCell_other _ _ _ _ (by simp), c2]
theorem ownB_lt {e : TypeId} {w : World} {B p n c g : Nat} {o : Nat} {A : Option Addr} {xs : List Int} (h : OwnI e w B (.slice A n c) xs) (hp : p < B) (he : A = some ⟨g, o, none⟩) : p < g := by
  subst he
  have := (h.lt g rfl).1
  omega
theorem amongN2_c (p k : Nat) (x0 x1 : Int) (hk : k ≤ 900000000) (W : World) (b : Nat) (hb : b = W.heap.size) (h : Src p k W) : Calls Tryz.prog 22 #[.pointer (some ⟨p, 0, none⟩), .slice (some ⟨b, 0, none⟩) 2 2] (W.alloc (.cells #[.int .i64 x0, .int .i64 x1] 2)) fun e w' => (∃ r : Int, (r = x0 ∨ r = x1) ∧ e = .returned (.int .i64 r)) ∧ Src p (k + 2) w' ∧ W.grownBy w' (some p) := by
  subst hb
  have hp := h.1
  refine (among_c p k (some ⟨W.heap.size, 0, none⟩) 2 [x0, x1] hk (by simp) (by simp) _ (h.below ((Below.refl _ _).alloc (Nat.le_refl _) _)) (RowI.new W 2 [x0, x1]) (fun g o e => by injection e with e; injection e with e _; omega)).mono ?_
  rintro e w' ⟨⟨j, hj, rfl⟩, hS, hG⟩
  refine ⟨⟨_, ?_, rfl⟩, hS, grown_trans (grown_of_below ((Below.refl _ _).alloc (Nat.le_refl _) _)) hG⟩
  have h : nth [x0, x1] j ∈ [x0, x1] := nth_mem hj
  simpa using h
theorem amongN4_c (p k : Nat) (x0 x1 x2 x3 : Int) (hk : k ≤ 900000000) (W : World) (b : Nat) (hb : b = W.heap.size) (h : Src p k W) : Calls Tryz.prog 22 #[.pointer (some ⟨p, 0, none⟩), .slice (some ⟨b, 0, none⟩) 4 4] (W.alloc (.cells #[.int .i64 x0, .int .i64 x1, .int .i64 x2, .int .i64 x3] 2)) fun e w' => (∃ r : Int, (r = x0 ∨ r = x1 ∨ r = x2 ∨ r = x3) ∧ e = .returned (.int .i64 r)) ∧ Src p (k + 2) w' ∧ W.grownBy w' (some p) := by
  subst hb
  have hp := h.1
  refine (among_c p k (some ⟨W.heap.size, 0, none⟩) 4 [x0, x1, x2, x3] hk (by simp) (by simp) _ (h.below ((Below.refl _ _).alloc (Nat.le_refl _) _)) (RowI.new W 2 [x0, x1, x2, x3]) (fun g o e => by injection e with e; injection e with e _; omega)).mono ?_
  rintro e w' ⟨⟨j, hj, rfl⟩, hS, hG⟩
  refine ⟨⟨_, ?_, rfl⟩, hS, grown_trans (grown_of_below ((Below.refl _ _).alloc (Nat.le_refl _) _)) hG⟩
  have h : nth [x0, x1, x2, x3] j ∈ [x0, x1, x2, x3] := nth_mem hj
  simpa using h
set_option maxRecDepth 100000 in
set_option maxHeartbeats 2000000 in
theorem l06DrawOk_c (p k : Nat) (hk : k ≤ 800000000) (w : World) (h : Src p k w) : Calls Tryz.prog 38 #[.pointer (some ⟨p, 0, none⟩)] w fun e w' => (∃ a g c d : Int, e = .returned (.agg #[.int .i64 a, .int .i64 g, .int .i64 c, .int .i64 d]) ∧ (1000 ≤ a ∧ a ≤ 2000000) ∧ (500 ≤ g ∧ g ≤ 6400) ∧ (6 ≤ c ∧ c ≤ 205) ∧ 1000 ≤ d ∧ d ≤ 900000) ∧ Src p (k + 8) w' ∧ w.grownBy w' (some p) := by
  have hp := h.1
  have HS0 := Lib.hid (h.below ((Below.refl w.heap.size w).alloc (Nat.le_refl _) (.cells #[.int .i64 0, .int .i64 0, .int .i64 0, .int .i64 0] 25)))
  have g0 : w.grownBy (w.alloc (.cells #[.int .i64 0, .int .i64 0, .int .i64 0, .int .i64 0] 25)) (some p) := grown_alloc (World.grownBy.refl _ _) _
  have B0 := Lib.hid (Box4.new w 25 0 0 0 0)
  clear h
  go_enter Tryz.func38, Tryz.ntmps38
  go_wp2_with (go_at_call 27; (with_reducible refine (pick_c p (k) 2000 (by omega) (by omega) _ HS0.out).mono ?_); rintro e w1 ⟨⟨r, r0, r1, rfl⟩, hS, hG⟩; have HS1 := Lib.hid hS; have g1 : w.grownBy w1 (some p) := grown_trans g0 hG; have zw1 := g1.size; clear hS; have B0 := Lib.hid (B0.out.kept hG (by omega)); have r2 : r ≤ 1999 := (by omega))
  go_wp2_with (go_at_call 27; (with_reducible refine (pick_c p (k + 2) 60 (by omega) (by omega) _ HS1.out).mono ?_); rintro e w2 ⟨⟨q, q0, q1, rfl⟩, hS, hG⟩; have HS2 := Lib.hid hS; have g2 : w.grownBy w2 (some p) := grown_trans g1 hG; have zw2 := g2.size; clear hS; have B0 := Lib.hid (B0.out.kept hG (by omega)); have q2 : q ≤ 59 := (by omega))
  have z2 := g2.size
  have n02' := B0.out.1
  have n02 : ¬ w.heap.size = w2.heap.size := by omega
  have n20 : ¬ w2.heap.size = w.heap.size := by omega
  generalize hA : 1000 * (1 + r) = a at *
  generalize hC : 500 + 100 * q = d at *
  have B1 := Lib.hid (Box4.new w2 25 a d 0 0)
  go_wp2_with (go_at_call 27; (with_reducible refine (pick_c p (k + 4) 200 (by omega) (by omega) _ (HS2.out.below ((Below.refl _ _).alloc (Nat.le_refl _) _))).mono ?_); rintro e w3 ⟨⟨u, u0, u1, rfl⟩, hS, hG⟩; have HS3 := Lib.hid hS; have g3 : w.grownBy w3 (some p) := grown_trans (grown_alloc g2 _) hG; have zw3 := g3.size; clear hS; have B0 := Lib.hid ((B0.out.kept (grown_alloc (World.grownBy.refl _ (some p)) _) (by omega)).kept hG (by omega)); have u2 : u ≤ 199 := (by omega); have B1 := Lib.hid (B1.out.kept hG (by omega)); obtain ⟨l1, c10, c11, c12, c13, f1⟩ := B1.out; have f11 := f1 2)
  generalize hE : 6 + u = c at *
  have HS3' := Lib.hid (HS3.out.other (show p < w2.heap.size by omega) 2 (.int .i64 c))
  have B1' := Lib.hid (B1.out.set2 c)
  have B0' := Lib.hid (B0.out.other n02 2 (.int .i64 c))
  have g3' := grown_setNew g3 (show w.heap.size ≤ w2.heap.size by omega) 2 (.int .i64 c)
  clear c10 c11 c12 c13 f1 f11
  go_wp2_with (go_at_call 27; (with_reducible refine (pick_c p (k + 6) 900 (by omega) (by omega) _ HS3'.out).mono ?_); rintro e w4 ⟨⟨x, x0, x1, rfl⟩, hS, hG⟩; have HS4 := Lib.hid hS; have g4 : w.grownBy w4 (some p) := grown_trans g3' hG; have zw4 := g4.size; clear hS; have x2 : x ≤ 899 := (by omega); have B0 := Lib.hid (B0'.out.kept hG (by omega)); have B1 := Lib.hid (B1'.out.kept hG (by omega)); obtain ⟨l1, c10, c11, c12, c13, f1⟩ := B1.out; have f13 := f1 3; obtain ⟨l0, c00, c01, c02, c03, f0⟩ := B0.out; have f00 := f0 0; have f01 := f0 1; have f02 := f0 2; have f03 := f0 3)
  ((try simp only [Exit.inBlock, Exit.then]); first | (refine bodyPost_ret (by simp [results, Tryz.results38, go_sem, *]; try rfl) rfl ?_) | (obtain ⟨u0, q0⟩ : ∃ u, w'.cell? ⟨w.heap.size, 0, none⟩ = some u := ⟨_, by simp [*, go_sem]; rfl⟩; obtain ⟨u1, q1⟩ : ∃ u, w'.cell? ⟨w.heap.size, 1, none⟩ = some u := ⟨_, by simp [*, go_sem]; rfl⟩; obtain ⟨u2, q2⟩ : ∃ u, w'.cell? ⟨w.heap.size, 2, none⟩ = some u := ⟨_, by simp [*, go_sem]; rfl⟩; obtain ⟨u3, q3⟩ : ∃ u, w'.cell? ⟨w.heap.size, 3, none⟩ = some u := ⟨_, by simp [*, go_sem]; rfl⟩; refine bodyPost_ret (by simp [results, Tryz.results38, go_sem, q0, q1, q2, q3]; try rfl) rfl ?_))
  exact ⟨⟨_, _, _, _, rfl, by omega, by omega, by omega, by omega⟩, ((((HS4.out.other (show p < w2.heap.size by omega) _ _).other hp _ _).other hp _ _).other hp _ _).other hp _ _, grown_setNew (grown_setNew (grown_setNew (grown_setNew (grown_setNew g4 (show w.heap.size ≤ w2.heap.size by omega) _ _) (Nat.le_refl _) _ _) (Nat.le_refl _) _ _) (Nat.le_refl _) _ _) (Nat.le_refl _) _ _⟩
set_option maxRecDepth 100000 in
set_option maxHeartbeats 2000000 in
theorem l06Draw_c (p k : Nat) (hk : k ≤ 700000000) (w : World) (h : Src p k w) : Calls Tryz.prog 21 #[.pointer (some ⟨p, 0, none⟩)] w fun e w' => (∃ a g c d : Int, e = .returned (.agg #[.int .i64 a, .int .i64 g, .int .i64 c, .int .i64 d]) ∧ 999 ≤ a ∧ a ≤ 4000001) ∧ Src p (k + 12) w' ∧ w.grownBy w' (some p) := by
  have hp := h.1
  have HS0 := Lib.hid (h.below ((Below.refl w.heap.size w).alloc (Nat.le_refl _) (.cells #[.int .i64 0, .int .i64 0, .int .i64 0, .int .i64 0] 25)))
  have g0 : w.grownBy (w.alloc (.cells #[.int .i64 0, .int .i64 0, .int .i64 0, .int .i64 0] 25)) (some p) := grown_alloc (World.grownBy.refl _ _) _
  have B0 := Lib.hid (Box4.new w 25 0 0 0 0)
  clear h
  go_enter Tryz.func21, Tryz.ntmps21
  go_wp2_with (first
    | (go_at_call 38; (with_reducible refine (l06DrawOk_c p k (by omega) _ HS0.out).mono ?_); rintro e w1 ⟨⟨a, g, c, d, rfl, qa, qg, qc, qd⟩, hS, hG⟩; have HS1 := Lib.hid hS; have g1 : w.grownBy w1 (some p) := grown_trans g0 hG; have zw1 := g1.size; have B0 := Lib.hid (B0.out.kept hG (by omega)); have zb1 := B0.out.1; clear hS; have B1 := Lib.hid (Box4.new w1 25 a g c d))
    | (go_at_call 27; (with_reducible refine (pick_c p (k + 8) 20 (by omega) (by omega) _ (HS1.out.below ((Below.refl _ _).alloc (Nat.le_refl _) _))).mono ?_); rintro e w2 ⟨⟨t, t0, t1, rfl⟩, hS, hG⟩; have HS2 := Lib.hid hS; have g2 : w.grownBy w2 (some p) := grown_trans (grown_alloc g1 _) hG; have zw2 := g2.size; clear hS; have B0 := Lib.hid ((B0.out.kept (grown_alloc (World.grownBy.refl _ (some p)) _) (by omega)).kept hG (by omega)); have B1 := Lib.hid (B1.out.kept hG (by omega)); obtain ⟨l0, c00, c01, c02, c03, f0⟩ := B0.out; obtain ⟨l1, c10, c11, c12, c13, f1⟩ := B1.out; have f00 := f0 0; have f01 := f0 1; have f02 := f0 2; have f03 := f0 3; have f10 := f1 0; have f11 := f1 1; have f12 := f1 2; have f13 := f1 3)
    | (go_at_call 22; (with_reducible refine (amongN4_c p (k + 8 + 2) 999 1000 4000000 4000001 (by omega) _ _ (by first | rfl | simp) HS2.out).mono ?_); rintro e w3 ⟨⟨x, xm, rfl⟩, hS, hG⟩; have HS3 := Lib.hid hS; have g3 : w.grownBy w3 (some p) := grown_trans g2 hG; have zw3 := g3.size; clear hS; clear l0 l1 f0 f1 c00 c01 c02 c03 c10 c11 c12 c13 f00 f01 f02 f03 f10 f11 f12 f13; have B0 := Lib.hid (B0.out.kept hG (by omega)); have B1 := Lib.hid (B1.out.kept hG (by omega)); obtain ⟨l0, c00, c01, c02, c03, f0⟩ := B0.out; obtain ⟨l1, c10, c11, c12, c13, f1⟩ := B1.out; have f00 := f0 0; have f01 := f0 1; have f02 := f0 2; have f03 := f0 3; have f10 := f1 0; have f11 := f1 1; have f12 := f1 2; have f13 := f1 3)
    | (go_at_call 22; (with_reducible refine (amongN4_c p (k + 8 + 2) 99 100 20000 20001 (by omega) _ _ (by first | rfl | simp) HS2.out).mono ?_); rintro e w3 ⟨⟨x, xm, rfl⟩, hS, hG⟩; have HS3 := Lib.hid hS; have g3 : w.grownBy w3 (some p) := grown_trans g2 hG; have zw3 := g3.size; clear hS; clear l0 l1 f0 f1 c00 c01 c02 c03 c10 c11 c12 c13 f00 f01 f02 f03 f10 f11 f12 f13; have B0 := Lib.hid (B0.out.kept hG (by omega)); have B1 := Lib.hid (B1.out.kept hG (by omega)); obtain ⟨l0, c00, c01, c02, c03, f0⟩ := B0.out; obtain ⟨l1, c10, c11, c12, c13, f1⟩ := B1.out; have f00 := f0 0; have f01 := f0 1; have f02 := f0 2; have f03 := f0 3; have f10 := f1 0; have f11 := f1 1; have f12 := f1 2; have f13 := f1 3)
    | (go_at_call 22; (with_reducible refine (amongN4_c p (k + 8 + 2) 5 6 400 401 (by omega) _ _ (by first | rfl | simp) HS2.out).mono ?_); rintro e w3 ⟨⟨x, xm, rfl⟩, hS, hG⟩; have HS3 := Lib.hid hS; have g3 : w.grownBy w3 (some p) := grown_trans g2 hG; have zw3 := g3.size; clear hS; clear l0 l1 f0 f1 c00 c01 c02 c03 c10 c11 c12 c13 f00 f01 f02 f03 f10 f11 f12 f13; have B0 := Lib.hid (B0.out.kept hG (by omega)); have B1 := Lib.hid (B1.out.kept hG (by omega)); obtain ⟨l0, c00, c01, c02, c03, f0⟩ := B0.out; obtain ⟨l1, c10, c11, c12, c13, f1⟩ := B1.out; have f00 := f0 0; have f01 := f0 1; have f02 := f0 2; have f03 := f0 3; have f10 := f1 0; have f11 := f1 1; have f12 := f1 2; have f13 := f1 3)
    | (go_at_call 22; (with_reducible refine (amongN4_c p (k + 8 + 2) 999 1000 10000000 10000001 (by omega) _ _ (by first | rfl | simp) HS2.out).mono ?_); rintro e w3 ⟨⟨x, xm, rfl⟩, hS, hG⟩; have HS3 := Lib.hid hS; have g3 : w.grownBy w3 (some p) := grown_trans g2 hG; have zw3 := g3.size; clear hS; clear l0 l1 f0 f1 c00 c01 c02 c03 c10 c11 c12 c13 f00 f01 f02 f03 f10 f11 f12 f13; have B0 := Lib.hid (B0.out.kept hG (by omega)); have B1 := Lib.hid (B1.out.kept hG (by omega)); obtain ⟨l0, c00, c01, c02, c03, f0⟩ := B0.out; obtain ⟨l1, c10, c11, c12, c13, f1⟩ := B1.out; have f00 := f0 0; have f01 := f0 1; have f02 := f0 2; have f03 := f0 3; have f10 := f1 0; have f11 := f1 1; have f12 := f1 2; have f13 := f1 3))
  all_goals
    have hq : w.heap.size < w1.heap.size := by omega
    have hp1 : p < w1.heap.size := by omega
    have n01 : ¬ w.heap.size = w1.heap.size := by omega
    have n10 : ¬ w1.heap.size = w.heap.size := by omega
    ((try simp only [Exit.inBlock, Exit.then]); first | (refine bodyPost_ret (by simp [results, Tryz.results21, go_sem, *]; try rfl) rfl ?_) | (obtain ⟨u0, q0⟩ : ∃ u, w'.cell? ⟨w.heap.size, 0, none⟩ = some u := ⟨_, by simp [*, go_sem]; rfl⟩; obtain ⟨u1, q1⟩ : ∃ u, w'.cell? ⟨w.heap.size, 1, none⟩ = some u := ⟨_, by simp [*, go_sem]; rfl⟩; obtain ⟨u2, q2⟩ : ∃ u, w'.cell? ⟨w.heap.size, 2, none⟩ = some u := ⟨_, by simp [*, go_sem]; rfl⟩; obtain ⟨u3, q3⟩ : ∃ u, w'.cell? ⟨w.heap.size, 3, none⟩ = some u := ⟨_, by simp [*, go_sem]; rfl⟩; refine bodyPost_ret (by simp [results, Tryz.results21, go_sem, q0, q1, q2, q3]; try rfl) rfl ?_))
    refine ⟨⟨_, _, _, _, rfl, by omega⟩, ?_, ?_⟩
    · first
        | exact ((((HS3.out.other hp1 _ _).other hp _ _).other hp _ _).other hp _ _).other hp _ _
        | exact ((((HS2.out.mono (by omega)).other hp _ _).other hp _ _).other hp _ _).other hp _ _
    · first
        | exact grown_setNew (grown_setNew (grown_setNew (grown_setNew (grown_setNew g3 (show w.heap.size ≤ w1.heap.size by omega) _ _) (Nat.le_refl _) _ _) (Nat.le_refl _) _ _) (Nat.le_refl _) _ _) (Nat.le_refl _) _ _
        | exact grown_setNew (grown_setNew (grown_setNew (grown_setNew g2 (Nat.le_refl _) _ _) (Nat.le_refl _) _ _) (Nat.le_refl _) _ _) (Nat.le_refl _) _ _
set_option maxRecDepth 100000 in
set_option maxHeartbeats 4000000 in
theorem l06DrawSheaves_c (p k : Nat) (hk : k ≤ 700000000) (w : World) (h : Src p k w) : Calls Tryz.prog 26 #[.pointer (some ⟨p, 0, none⟩)] w fun e w' => (∃ (A : Option Addr) (n c : Nat) (z : List Int), e = .returned (.slice A n c) ∧ z.length = n ∧ n ≤ 100 ∧ RowI w' A z ∧ ∀ g o, A = some ⟨g, o, none⟩ → p < g) ∧ Src p (k + 200) w' ∧ w.grownBy w' (some p) := by
  have hp := h.1
  have HS0 := Lib.hid (h.below ((Below.refl w.heap.size w).alloc (Nat.le_refl _) (.cells #[] 2)))
  have g0 : w.grownBy (w.alloc (.cells #[] 2)) (some p) := grown_alloc (World.grownBy.refl _ _) _
  have HO0 := Lib.hid (OwnI.lit 2 w w.heap.size (Nat.le_refl _))
  clear h
  go_enter Tryz.func26, Tryz.ntmps26
  go_wp2_with (go_at_call 27; (with_reducible refine (pick_c p (k) 6 (by omega) (by omega) _ HS0.out).mono ?_); rintro e w1 ⟨⟨b, b0, b1, rfl⟩, hS, hG⟩; have HS1 := Lib.hid hS; have g1 : w.grownBy w1 (some p) := grown_trans g0 hG; have zw1 := g1.size; clear hS)
  have HO1 := Lib.hid (HO0.out.kept hG hp)
  go_loopw [3, 4] (fun v i wr => ∃ (m q : Nat) (z : List Int), i = .int .i64 q ∧ m + q ≤ 6 ∧ z.length = m ∧ Hid (OwnI 2 wr w.heap.size v z) ∧ Hid (Src p (k + 2 + 2 * m) wr) ∧ w.grownBy wr (some p)) (fun _ i _ => (intOf i).toNat)
  case atStart => exact ⟨0, b.toNat, [], by congr 1; omega, by omega, rfl, HO1, Lib.hid (HS1.out.mono (by omega)), g1⟩
  case round =>
    obtain ⟨m, q, z, rfl, hmq, hzl, HO, HS, hg⟩ := hrel
    have zg := hg.size
    rcases Nat.eq_zero_or_pos q with hq | hq
    · subst hq
      go_wp2_with (first | (go_at_call 27; (with_reducible refine (pick_c p (k + 2 + 2 * m) 14 (by omega) (by omega) _ HS.out).mono ?_); rintro e w3 ⟨⟨t, t0, t1, rfl⟩, hS, hG⟩; have HS3 := Lib.hid hS; have g3 : w.grownBy w3 (some p) := grown_trans hg hG; have zw3 := g3.size; clear hS; have HO3 := Lib.hid (HO.out.kept hG hp)) | (go_at_call 22; (with_reducible refine (amongN4_c p (k + 2 + 2 * m + 2) 99 100 10000 10001 (by omega) _ _ (by first | rfl | simp) HS3.out).mono ?_); rintro e w4 ⟨⟨x, xm, rfl⟩, hS, hG⟩; have HS4 := Lib.hid hS; have g4 : w.grownBy w4 (some p) := grown_trans g3 hG; have zw4 := g4.size; clear hS; have HO4 := Lib.hid (HO3.out.kept hG hp)) | (go_at_call 22; (with_reducible refine (amongN2_c p (k + 2 + 2 * m + 2) 12 13 (by omega) _ _ (by first | rfl | simp) HS3.out).mono ?_); rintro e w4 ⟨⟨x4, xm, rfl⟩, hS, hG⟩; have HS4 := Lib.hid hS; have g4 : w.grownBy w4 (some p) := grown_trans g3 hG; have zw4 := g4.size; clear hS) | (at_builtin; refine wpList_push rfl _ _ 30 rfl Tryz.underlying30 int64_info _ rfl HO4.out rfl rfl (by first | omega | (simp; omega)) (by first | omega | (simp; omega)) ?_; intro v' w6 hO' hB'; have HO' := Lib.hid hO'; have HS' := Lib.hid (HS4.out.belowB hB' hp); have g' := grown_below g4 hB'; clear hO'))
      · go_returns
        obtain ⟨A5, c5, rfl, hR5⟩ := HO'.out.slice
        exact ⟨⟨A5, _, c5, _, by simp, rfl, by simp; omega, hR5, fun g o e => ownB_lt HO'.out hp e⟩, HS'.out.mono (by omega), g'⟩
      · obtain ⟨r9, hr9, rfl⟩ : ∃ r9 : Nat, r9 ≤ 13 ∧ x4 = r9 := ⟨x4.toNat, by omega, by omega⟩
        go_loopw [3, 6] (fun v i wr => ∃ (j : Nat) (z : List Int), j ≤ r9 ∧ z.length = j ∧ i = .int .i64 j ∧ Hid (OwnI 2 wr w.heap.size v z) ∧ Hid (Src p (k + 2 + 2 * m + 4) wr) ∧ w.grownBy wr (some p)) (fun _ i _ => r9 - (intOf i).toNat)
        case atStart => exact ⟨0, [], by omega, rfl, rfl, Lib.hid (OwnI.lit _ _ _ (by omega)), Lib.hid (HS4.out.below ((Below.refl _ _).alloc (Nat.le_refl _) _)), grown_alloc g4 _⟩
        case round =>
          obtain ⟨j, z', hj, hzj, rfl, HO5, HS5, hg5⟩ := hrel
          have zg5 := hg5.size
          by_cases hjr : j < r9
          · have i2 : (j : Int) < r9 := by omega
            go_wp2_with (at_builtin; refine wpList_push rfl _ _ 30 rfl Tryz.underlying30 int64_info _ rfl HO5.out rfl rfl (by first | omega | (simp; omega)) (by first | omega | (simp; omega)) ?_; intro v' w6 hO' hB'; have HO' := Lib.hid hO'; have HS' := Lib.hid (HS5.out.belowB hB' hp); have g' := grown_below hg5 hB'; clear hO')
            go_roundw
            case rel => exact ⟨j + 1, _, by omega, by simp; omega, by go_num, HO', HS', g'⟩
            case measure => simp [intOf]; omega
          · obtain rfl : j = r9 := by omega
            go_wp2
            go_returns
            obtain ⟨A5, c5, rfl, hR5⟩ := HO5.out.slice
            exact ⟨⟨A5, _, c5, _, by simp, rfl, by omega, hR5, fun g o e => ownB_lt HO5.out hp e⟩, HS5.out.mono (by omega), hg5⟩
      · go_returns
        obtain ⟨A5, c5, rfl, hR5⟩ := HO3.out.slice
        exact ⟨⟨A5, _, c5, _, by simp, rfl, by omega, hR5, fun g o e => ownB_lt HO3.out hp e⟩, HS3.out.mono (by omega), g3⟩
    · have i1 : (0 : Int) < q := by omega
      go_wp2_with (first | (go_at_call 27; (with_reducible refine (pick_c p (k + 2 + 2 * m) 40 (by omega) (by omega) _ HS.out).mono ?_); rintro e w3 ⟨⟨t, t0, t1, rfl⟩, hS, hG⟩; have HS3 := Lib.hid hS; have g3 : w.grownBy w3 (some p) := grown_trans hg hG; have zw3 := g3.size; clear hS; have HO3 := Lib.hid (HO.out.kept hG hp)) | (at_builtin; refine wpList_push rfl _ _ 30 rfl Tryz.underlying30 int64_info _ rfl HO3.out rfl rfl (by first | omega | (simp; omega)) (by first | omega | (simp; omega)) ?_; intro v' w6 hO' hB'; have HO' := Lib.hid hO'; have HS' := Lib.hid (HS3.out.belowB hB' hp); have g' := grown_below g3 hB'; clear hO'))
      go_roundw
      case rel => exact ⟨m + 1, q - 1, _, by congr 1; omega, by omega, by simp; omega, HO', Lib.hid (HS'.out.mono (by omega)), g'⟩
      case measure => simp [intOf]; omega
end Go.Proofs.YthemojobalcopaaGreatDoor
