/- DrawPullFor, DrawBendsLeft, DrawCutRope, DrawSpliceLoss. -/
import Derived.Test.YthemojobalcopaaGreatDoorYD
import Derived.Deep.CutRange
namespace Go.Proofs.YthemojobalcopaaGreatDoor
open Go.ChangeShapes Go.WideShapes Go.ChangeAt Go.RowKit
set_option linter.unusedVariables false
set_option linter.unusedSimpArgs false

set_option maxRecDepth 100000 in
set_option maxHeartbeats 4000000 in
theorem DrawBendsLeft_c (A : Option Addr) (n c : Nat) (hn : n ≤ 1048576) (w : World) (hr : RowB w A n) : Calls Tryz.prog 8 #[.slice A n c] w fun e w' => (∃ (A : Option Addr) (n c : Nat) (z : List Int) (d m : Int), e = .returned (.tuple #[.slice A n c, .int .i64 d, .int .i64 m]) ∧ z.length = n ∧ n ≤ 100 ∧ RowI w' A z) ∧ Below w.heap.size w w' := by
  go_enter Tryz.func8, Tryz.ntmps8
  go_wp2_with (first
    | (go_at_call 20; (with_reducible refine (l00From_c A n c hn _ hr).mono ?_); rintro e w0 ⟨rfl, hS, hB⟩; have HS0 := Lib.hid hS; have HB0 := Lib.hid hB; clear hS; have z0 := hB.size; clear hB)
    | (go_at_call 26; (with_reducible refine (l06DrawSheaves_c _ 0 (by omega) _ HS0.out).mono ?_); rintro e w1 ⟨⟨A1, m, c1, z, rfl, hz, hm, hR1, hA1⟩, hS, hG⟩; have HS1 := Lib.hid hS; have HB1 := Lib.hid (below_grown HB0.out hG z0 (Nat.le_refl _)); have z1 := hG.size; clear hS)
    | (go_at_call 27; (with_reducible refine (pick_c _ (0 + 200) 5000 (by omega) (by omega) _ HS1.out).mono ?_); rintro e w2 ⟨⟨x, x0, x1, rfl⟩, hS, hG⟩; have HS2 := Lib.hid hS; have HB2 := Lib.hid (below_grown HB1.out hG (by omega) (Nat.le_refl _)); have z2 := hG.size; have hR2 := hR1.kept hG (fun g o e => Nat.ne_of_gt (hA1 g o e)); clear hS)
    | (go_at_call 28; (with_reducible refine (one_c _ (0 + 200 + 2) 9 (by omega) (by omega) _ HS2.out).mono ?_); rintro e w3 ⟨⟨b, rfl⟩, hS, hG⟩; have HS3 := Lib.hid hS; have HB3 := Lib.hid (below_grown HB2.out hG (by omega) (Nat.le_refl _)); have z3 := hG.size; have hR3 := hR2.kept hG (fun g o e => Nat.ne_of_gt (hA1 g o e)); clear hS; cases b)
    | (go_at_call 22; (with_reducible refine (amongN4_c _ (0 + 200 + 2 + 2) (-1) 0 1000000000000 1000000000001 (by omega) _ _ (by first | rfl | simp) HS3.out).mono ?_); rintro e w4 ⟨⟨xw4, xm, rfl⟩, hS, hG⟩; have HS4 := Lib.hid hS; have HB4 := Lib.hid (below_grown HB3.out hG (by omega) (Nat.le_refl _)); have z4 := hG.size; have hR4 := hR3.kept hG (fun g o e => Nat.ne_of_gt (hA1 g o e)); clear hS)
    | (go_at_call 28; (with_reducible refine (one_c _ (0 + 200 + 2 + 2 + 2) 9 (by omega) (by omega) _ HS4.out).mono ?_); rintro e w5 ⟨⟨b, rfl⟩, hS, hG⟩; have HS5 := Lib.hid (hS.mono (show _ ≤ 300 by omega)); have HB5 := Lib.hid (below_grown HB4.out hG (by omega) (Nat.le_refl _)); have z5 := hG.size; have hR5 := hR4.kept hG (fun g o e => Nat.ne_of_gt (hA1 g o e)); clear hS; cases b)
    | (go_at_call 28; (with_reducible refine (one_c _ (0 + 200 + 2 + 2) 9 (by omega) (by omega) _ HS3.out).mono ?_); rintro e w5 ⟨⟨b, rfl⟩, hS, hG⟩; have HS5 := Lib.hid (hS.mono (show _ ≤ 300 by omega)); have HB5 := Lib.hid (below_grown HB3.out hG (by omega) (Nat.le_refl _)); have z5 := hG.size; have hR5 := hR3.kept hG (fun g o e => Nat.ne_of_gt (hA1 g o e)); clear hS; cases b)
    | (go_at_call 22; (with_reducible refine (amongN4_c _ (300) (-1) 0 1000000000000 1000000000001 (by omega) _ _ (by first | rfl | simp) HS5.out).mono ?_); rintro e w6 ⟨⟨xw6, xm, rfl⟩, hS, hG⟩; have HS6 := Lib.hid hS; have HB6 := Lib.hid (below_grown HB5.out hG (by omega) (Nat.le_refl _)); have z6 := hG.size; have hR6 := hR5.kept hG (fun g o e => Nat.ne_of_gt (hA1 g o e)); clear hS)
    | (go_at_call 27; (with_reducible refine (pick_c _ (300) 9000 (by omega) (by omega) _ HS5.out).mono ?_); rintro e w6 ⟨⟨y, y0, y1, rfl⟩, hS, hG⟩; have HS6 := Lib.hid hS; have HB6 := Lib.hid (below_grown HB5.out hG (by omega) (Nat.le_refl _)); have z6 := hG.size; have hR6 := hR5.kept hG (fun g o e => Nat.ne_of_gt (hA1 g o e)); clear hS))
  all_goals
    go_returns
    exact ⟨⟨A1, m, c1, z, _, _, by first | rfl | (simp; done) | (simp; rfl), hz, hm, hR6⟩, HB6.out⟩
theorem among1_3000_5000_8000_10000_100000_100001_0_c (p k : Nat) (hk : k ≤ 900000000) (W : World) (b : Nat) (hb : b = W.heap.size) (h : Src p k W) : Calls Tryz.prog 22 #[.pointer (some ⟨p, 0, none⟩), .slice (some ⟨b, 0, none⟩) 8 8] (W.alloc (.cells #[.int .i64 1, .int .i64 3000, .int .i64 5000, .int .i64 8000, .int .i64 10000, .int .i64 100000, .int .i64 100001, .int .i64 0] 2)) fun e w' => (∃ r : Int, e = .returned (.int .i64 r)) ∧ Src p (k + 2) w' ∧ W.grownBy w' (some p) :=
  amongL_c p k [1, 3000, 5000, 8000, 10000, 100000, 100001, 0] hk (by simp) (by simp) W 2 b hb h
theorem among0_5_10_50_100_101_m1_c (p k : Nat) (hk : k ≤ 900000000) (W : World) (b : Nat) (hb : b = W.heap.size) (h : Src p k W) : Calls Tryz.prog 22 #[.pointer (some ⟨p, 0, none⟩), .slice (some ⟨b, 0, none⟩) 7 7] (W.alloc (.cells #[.int .i64 0, .int .i64 5, .int .i64 10, .int .i64 50, .int .i64 100, .int .i64 101, .int .i64 (-1)] 2)) fun e w' => (∃ r : Int, e = .returned (.int .i64 r)) ∧ Src p (k + 2) w' ∧ W.grownBy w' (some p) :=
  amongL_c p k [0, 5, 10, 50, 100, 101, (-1)] hk (by simp) (by simp) W 2 b hb h
theorem amongLD_c (p k : Nat) (xs : List Int) (hk : k ≤ 900000000) (hx0 : 0 < xs.length) (hx1 : xs.length ≤ 1000) (W : World) (t : TypeId) (b : Nat) (hb : b = W.heap.size) (h : Src p k W) : Calls Tryz.prog 22 #[.pointer (some ⟨p, 0, none⟩), .slice (some ⟨b, 0, none⟩) xs.length xs.length] ((W.alloc (.cells (ints xs) t)).drew) fun e w' => (∃ r : Int, e = .returned (.int .i64 r)) ∧ Src p (k + 2) w' ∧ W.grownBy w' (some p) := by
  subst hb
  have hp := h.1
  refine (among_c p k (some ⟨W.heap.size, 0, none⟩) xs.length xs hk hx0 hx1 _ (by have h1 : Src p k (W.alloc (.cells (ints xs) t)) := h.below ((Below.refl _ _).alloc (Nat.le_refl _) _); exact h1) (by have h2 : RowI (W.alloc (.cells (ints xs) t)) (some ⟨W.heap.size, 0, none⟩) xs := RowI.new W t xs; exact h2) (fun g o e => by injection e with e; injection e with e _; omega)).mono ?_
  rintro e w' ⟨⟨j, _, rfl⟩, hS, hG⟩
  exact ⟨⟨_, rfl⟩, hS, grown_trans (grown_of_below ((Below.refl _ _).alloc (Nat.le_refl _) _).drew) hG⟩
theorem among1_3000_5000_8000_10000_100000_100001_0_d (p k : Nat) (hk : k ≤ 900000000) (W : World) (b : Nat) (hb : b = W.heap.size) (h : Src p k W) : Calls Tryz.prog 22 #[.pointer (some ⟨p, 0, none⟩), .slice (some ⟨b, 0, none⟩) 8 8] ((W.alloc (.cells #[.int .i64 1, .int .i64 3000, .int .i64 5000, .int .i64 8000, .int .i64 10000, .int .i64 100000, .int .i64 100001, .int .i64 0] 2)).drew) fun e w' => (∃ r : Int, e = .returned (.int .i64 r)) ∧ Src p (k + 2) w' ∧ W.grownBy w' (some p) :=
  amongLD_c p k [1, 3000, 5000, 8000, 10000, 100000, 100001, 0] hk (by simp) (by simp) W 2 b hb h
theorem among0_5_10_50_100_101_m1_d (p k : Nat) (hk : k ≤ 900000000) (W : World) (b : Nat) (hb : b = W.heap.size) (h : Src p k W) : Calls Tryz.prog 22 #[.pointer (some ⟨p, 0, none⟩), .slice (some ⟨b, 0, none⟩) 7 7] ((W.alloc (.cells #[.int .i64 0, .int .i64 5, .int .i64 10, .int .i64 50, .int .i64 100, .int .i64 101, .int .i64 (-1)] 2)).drew) fun e w' => (∃ r : Int, e = .returned (.int .i64 r)) ∧ Src p (k + 2) w' ∧ W.grownBy w' (some p) :=
  amongLD_c p k [0, 5, 10, 50, 100, 101, (-1)] hk (by simp) (by simp) W 2 b hb h
theorem amongC_c (p k : Nat) (x y : Int) (hk : k ≤ 900000000) (W : World) (b : Nat) (hb : b = W.heap.size) (h : Src p k W) : Calls Tryz.prog 22 #[.pointer (some ⟨p, 0, none⟩), .slice (some ⟨b, 0, none⟩) 6 6] (W.alloc (.cells #[.int .i64 0, .int .i64 1, .int .i64 x, .int .i64 y, .int .i64 4000000, .int .i64 4000001] 2)) fun e w' => (∃ r : Int, e = .returned (.int .i64 r)) ∧ Src p (k + 2) w' ∧ W.grownBy w' (some p) :=
  amongL_c p k [0, 1, x, y, 4000000, 4000001] hk (by simp) (by simp) W 2 b hb h
theorem amongC_d (p k : Nat) (x y : Int) (hk : k ≤ 900000000) (W : World) (b : Nat) (hb : b = W.heap.size) (h : Src p k W) : Calls Tryz.prog 22 #[.pointer (some ⟨p, 0, none⟩), .slice (some ⟨b, 0, none⟩) 6 6] ((W.alloc (.cells #[.int .i64 0, .int .i64 1, .int .i64 x, .int .i64 y, .int .i64 4000000, .int .i64 4000001] 2)).drew) fun e w' => (∃ r : Int, e = .returned (.int .i64 r)) ∧ Src p (k + 2) w' ∧ W.grownBy w' (some p) :=
  amongLD_c p k [0, 1, x, y, 4000000, 4000001] hk (by simp) (by simp) W 2 b hb h
set_option maxRecDepth 100000 in
set_option maxHeartbeats 4000000 in
theorem DrawPullFor_c (A : Option Addr) (n c : Nat) (hn : n ≤ 1048576) (w : World) (hr : RowB w A n) : Calls Tryz.prog 5 #[.slice A n c] w fun e w' => (∃ a g c d x : Int, e = .returned (.tuple #[.agg #[.int .i64 a, .int .i64 g, .int .i64 c, .int .i64 d], .int .i64 x])) ∧ Below w.heap.size w w' := by
  have hB0 : Below w.heap.size w (w.alloc (.cells #[.int .i64 0, .int .i64 0, .int .i64 0, .int .i64 0] 25)) := (Below.refl _ _).alloc (Nat.le_refl _) _
  have B0 := Lib.hid (Box4.new w 25 0 0 0 0)
  have hr0 := hr.below hB0
  have zz : (w.alloc (.cells #[.int .i64 0, .int .i64 0, .int .i64 0, .int .i64 0] 25)).heap.size = w.heap.size + 1 := by simp
  generalize hW : w.alloc (.cells #[.int .i64 0, .int .i64 0, .int .i64 0, .int .i64 0] 25) = W at hB0 B0 hr0 zz
  go_enter Tryz.func5, Tryz.ntmps5
  go_wp2_with (first
    | (go_at_call 20; (with_reducible refine (l00From_c A n c hn _ hr0).mono ?_); rintro e w0 ⟨rfl, hS, hB⟩; have HS0 := Lib.hid (show Src (w.heap.size + 1) 0 w0 by rw [← zz]; exact hS); have HB0 := Lib.hid (hB0.trans (hB.mono (by omega))); have B1 := Lib.hid (B0.out.kept (grown_of_below (k := some (w.heap.size + 1)) hB) (by omega)); have z0 := hB.size; clear hS)
    | (go_at_call 21; (with_reducible refine (l06Draw_c _ 0 (by omega) _ HS0.out).mono ?_); rintro e w1 ⟨⟨a, g, c, d, rfl, qa0, qa1⟩, hS, hG⟩; have HS1 := Lib.hid hS; have HB1 := Lib.hid (below_grown HB0.out hG (by omega) (by omega)); have B2 := Lib.hid (B1.out.kept hG (by omega)); have z1 := hG.size; clear hS; have B9 := Lib.hid (Box4.new w1 25 a g c d)))
  have hpp := HS1.out.1
  have HS9 := Lib.hid (HS1.out.below ((Below.refl w1.heap.size w1).alloc (Nat.le_refl _) (.cells #[.int .i64 a, .int .i64 g, .int .i64 c, .int .i64 d] 25)))
  have B8 := Lib.hid (B2.out.kept (grown_alloc (World.grownBy.refl w1 (some (w.heap.size + 1))) (.cells #[.int .i64 a, .int .i64 g, .int .i64 c, .int .i64 d] 25)) (by omega))
  have HB9 := Lib.hid (HB1.out.alloc (show w.heap.size ≤ w1.heap.size by omega) (.cells #[.int .i64 a, .int .i64 g, .int .i64 c, .int .i64 d] 25))
  have l9 : w1.heap.size < (w1.alloc (.cells #[.int .i64 a, .int .i64 g, .int .i64 c, .int .i64 d] 25)).heap.size := by simp
  generalize (w1.alloc (.cells #[.int .i64 a, .int .i64 g, .int .i64 c, .int .i64 d] 25)) = W9 at HS9 B8 HB9 B9 l9 ⊢
  obtain ⟨m0, c90, c91, c92, c93, f9⟩ := B9.out
  obtain ⟨m1, c80, c81, c82, c83, f8⟩ := B8.out
  have f80 := f8 0
  have f81 := f8 1
  have f82 := f8 2
  have f83 := f8 3
  have n98 : ¬ w1.heap.size = w.heap.size := by omega
  have n89 : ¬ w.heap.size = w1.heap.size := by omega
  go_region_with (first | (go_at_call 22; (first | with_reducible refine (among1_3000_5000_8000_10000_100000_100001_0_c (w.heap.size + 1) (0 + 12) (by omega) _ _ (by first | rfl | simp) HS9.out).mono ?_ | with_reducible refine (among1_3000_5000_8000_10000_100000_100001_0_d (w.heap.size + 1) (0 + 12) (by omega) _ _ (by first | rfl | simp) HS9.out).mono ?_ | refine (among1_3000_5000_8000_10000_100000_100001_0_d (w.heap.size + 1) (0 + 12) (by omega) _ _ (by first | rfl | simp) (by exact HS9.out)).mono ?_); rintro e w4 ⟨⟨x, rfl⟩, hS, hG⟩; have C9 : Box4 w1.heap.size w4 a g c d := (by refine Box4.kept ?_ hG (by omega); exact B9.out); obtain ⟨k0, d90, d91, d92, d93, g9⟩ := C9; have C8 : Box4 w.heap.size w4 0 0 0 0 := (by refine Box4.kept ?_ hG (by omega); exact B8.out); obtain ⟨k1, d80, d81, d82, d83, g8⟩ := C8; have g80 := g8 0; have g81 := g8 1; have g82 := g8 2; have g83 := g8 3; have HB4 : Below w.heap.size w w4 := (by refine below_grown ?_ hG (by first | omega | (show w.heap.size ≤ W9.heap.size; omega)) (by omega); first | exact HB9.out.drew | exact bdrewN HB9.out 1 | exact HB9.out); clear hS))
  all_goals
    go_wp2
    ((try simp only [Exit.inBlock, Exit.then]); first | (refine bodyPost_ret (by simp [results, Tryz.results5, go_sem, *]; try rfl) rfl ?_) | (obtain ⟨u0, q0⟩ : ∃ u, w'.cell? ⟨w.heap.size, 0, none⟩ = some u := ⟨_, by simp [*, go_sem]; rfl⟩; obtain ⟨u1, q1⟩ : ∃ u, w'.cell? ⟨w.heap.size, 1, none⟩ = some u := ⟨_, by simp [*, go_sem]; rfl⟩; obtain ⟨u2, q2⟩ : ∃ u, w'.cell? ⟨w.heap.size, 2, none⟩ = some u := ⟨_, by simp [*, go_sem]; rfl⟩; obtain ⟨u3, q3⟩ : ∃ u, w'.cell? ⟨w.heap.size, 3, none⟩ = some u := ⟨_, by simp [*, go_sem]; rfl⟩; refine bodyPost_ret (by simp [results, Tryz.results5, go_sem, q0, q1, q2, q3]; try rfl) rfl ?_))
    refine ⟨⟨_, _, _, _, _, rfl⟩, ?_⟩
    exact (((HB4.setCell (Nat.le_refl _) _).setCell (Nat.le_refl _) _).setCell (Nat.le_refl _) _).setCell (Nat.le_refl _) _
set_option maxRecDepth 100000 in
set_option maxHeartbeats 4000000 in
theorem DrawSpliceLoss_c (A : Option Addr) (n c : Nat) (hn : n ≤ 1048576) (w : World) (hr : RowB w A n) : Calls Tryz.prog 15 #[.slice A n c] w fun e w' => (∃ a g c d x : Int, e = .returned (.tuple #[.agg #[.int .i64 a, .int .i64 g, .int .i64 c, .int .i64 d], .int .i64 x])) ∧ Below w.heap.size w w' := by
  have hB0 : Below w.heap.size w (w.alloc (.cells #[.int .i64 0, .int .i64 0, .int .i64 0, .int .i64 0] 25)) := (Below.refl _ _).alloc (Nat.le_refl _) _
  have B0 := Lib.hid (Box4.new w 25 0 0 0 0)
  have hr0 := hr.below hB0
  have zz : (w.alloc (.cells #[.int .i64 0, .int .i64 0, .int .i64 0, .int .i64 0] 25)).heap.size = w.heap.size + 1 := by simp
  generalize hW : w.alloc (.cells #[.int .i64 0, .int .i64 0, .int .i64 0, .int .i64 0] 25) = W at hB0 B0 hr0 zz
  go_enter Tryz.func15, Tryz.ntmps15
  go_wp2_with (first
    | (go_at_call 20; (with_reducible refine (l00From_c A n c hn _ hr0).mono ?_); rintro e w0 ⟨rfl, hS, hB⟩; have HS0 := Lib.hid (show Src (w.heap.size + 1) 0 w0 by rw [← zz]; exact hS); have HB0 := Lib.hid (hB0.trans (hB.mono (by omega))); have B1 := Lib.hid (B0.out.kept (grown_of_below (k := some (w.heap.size + 1)) hB) (by omega)); have z0 := hB.size; clear hS)
    | (go_at_call 21; (with_reducible refine (l06Draw_c _ 0 (by omega) _ HS0.out).mono ?_); rintro e w1 ⟨⟨a, g, c, d, rfl, qa0, qa1⟩, hS, hG⟩; have HS1 := Lib.hid hS; have HB1 := Lib.hid (below_grown HB0.out hG (by omega) (by omega)); have B2 := Lib.hid (B1.out.kept hG (by omega)); have z1 := hG.size; clear hS; have B9 := Lib.hid (Box4.new w1 25 a g c d)))
  have hpp := HS1.out.1
  have HS9 := Lib.hid (HS1.out.below ((Below.refl w1.heap.size w1).alloc (Nat.le_refl _) (.cells #[.int .i64 a, .int .i64 g, .int .i64 c, .int .i64 d] 25)))
  have B8 := Lib.hid (B2.out.kept (grown_alloc (World.grownBy.refl w1 (some (w.heap.size + 1))) (.cells #[.int .i64 a, .int .i64 g, .int .i64 c, .int .i64 d] 25)) (by omega))
  have HB9 := Lib.hid (HB1.out.alloc (show w.heap.size ≤ w1.heap.size by omega) (.cells #[.int .i64 a, .int .i64 g, .int .i64 c, .int .i64 d] 25))
  have l9 : w1.heap.size < (w1.alloc (.cells #[.int .i64 a, .int .i64 g, .int .i64 c, .int .i64 d] 25)).heap.size := by simp
  generalize (w1.alloc (.cells #[.int .i64 a, .int .i64 g, .int .i64 c, .int .i64 d] 25)) = W9 at HS9 B8 HB9 B9 l9 ⊢
  obtain ⟨m0, c90, c91, c92, c93, f9⟩ := B9.out
  obtain ⟨m1, c80, c81, c82, c83, f8⟩ := B8.out
  have f80 := f8 0
  have f81 := f8 1
  have f82 := f8 2
  have f83 := f8 3
  have n98 : ¬ w1.heap.size = w.heap.size := by omega
  have n89 : ¬ w.heap.size = w1.heap.size := by omega
  go_region_with (first | (go_at_call 22; (first | with_reducible refine (among0_5_10_50_100_101_m1_c (w.heap.size + 1) (0 + 12) (by omega) _ _ (by first | rfl | simp) HS9.out).mono ?_ | with_reducible refine (among0_5_10_50_100_101_m1_d (w.heap.size + 1) (0 + 12) (by omega) _ _ (by first | rfl | simp) HS9.out).mono ?_ | refine (among0_5_10_50_100_101_m1_d (w.heap.size + 1) (0 + 12) (by omega) _ _ (by first | rfl | simp) (by exact HS9.out)).mono ?_); rintro e w4 ⟨⟨x, rfl⟩, hS, hG⟩; have C9 : Box4 w1.heap.size w4 a g c d := (by refine Box4.kept ?_ hG (by omega); exact B9.out); obtain ⟨k0, d90, d91, d92, d93, g9⟩ := C9; have C8 : Box4 w.heap.size w4 0 0 0 0 := (by refine Box4.kept ?_ hG (by omega); exact B8.out); obtain ⟨k1, d80, d81, d82, d83, g8⟩ := C8; have g80 := g8 0; have g81 := g8 1; have g82 := g8 2; have g83 := g8 3; have HB4 : Below w.heap.size w w4 := (by refine below_grown ?_ hG (by first | omega | (show w.heap.size ≤ W9.heap.size; omega)) (by omega); first | exact HB9.out.drew | exact bdrewN HB9.out 1 | exact HB9.out); clear hS))
  all_goals
    go_wp2
    ((try simp only [Exit.inBlock, Exit.then]); first | (refine bodyPost_ret (by simp [results, Tryz.results15, go_sem, *]; try rfl) rfl ?_) | (obtain ⟨u0, q0⟩ : ∃ u, w'.cell? ⟨w.heap.size, 0, none⟩ = some u := ⟨_, by simp [*, go_sem]; rfl⟩; obtain ⟨u1, q1⟩ : ∃ u, w'.cell? ⟨w.heap.size, 1, none⟩ = some u := ⟨_, by simp [*, go_sem]; rfl⟩; obtain ⟨u2, q2⟩ : ∃ u, w'.cell? ⟨w.heap.size, 2, none⟩ = some u := ⟨_, by simp [*, go_sem]; rfl⟩; obtain ⟨u3, q3⟩ : ∃ u, w'.cell? ⟨w.heap.size, 3, none⟩ = some u := ⟨_, by simp [*, go_sem]; rfl⟩; refine bodyPost_ret (by simp [results, Tryz.results15, go_sem, q0, q1, q2, q3]; try rfl) rfl ?_))
    refine ⟨⟨_, _, _, _, _, rfl⟩, ?_⟩
    exact (((HB4.setCell (Nat.le_refl _) _).setCell (Nat.le_refl _) _).setCell (Nat.le_refl _) _).setCell (Nat.le_refl _) _
set_option maxRecDepth 100000 in
set_option maxHeartbeats 4000000 in
theorem DrawCutRope_c (A : Option Addr) (n c : Nat) (hn : n ≤ 1048576) (w : World) (hr : RowB w A n) : Calls Tryz.prog 11 #[.slice A n c] w fun e w' => (∃ a g c d x : Int, e = .returned (.tuple #[.agg #[.int .i64 a, .int .i64 g, .int .i64 c, .int .i64 d], .int .i64 x])) ∧ Below w.heap.size w w' := by
  have hB0 : Below w.heap.size w (w.alloc (.cells #[.int .i64 0, .int .i64 0, .int .i64 0, .int .i64 0] 25)) := (Below.refl _ _).alloc (Nat.le_refl _) _
  have B0 := Lib.hid (Box4.new w 25 0 0 0 0)
  have hr0 := hr.below hB0
  have zz : (w.alloc (.cells #[.int .i64 0, .int .i64 0, .int .i64 0, .int .i64 0] 25)).heap.size = w.heap.size + 1 := by simp
  generalize hW : w.alloc (.cells #[.int .i64 0, .int .i64 0, .int .i64 0, .int .i64 0] 25) = W at hB0 B0 hr0 zz
  go_enter Tryz.func11, Tryz.ntmps11
  go_upto_region 3 with (first
    | (go_at_call 20; (with_reducible refine (l00From_c A n c hn _ hr0).mono ?_); rintro e w0 ⟨rfl, hS, hB⟩; have HS0 := Lib.hid (show Src (w.heap.size + 1) 0 w0 by rw [← zz]; exact hS); have HB0 := Lib.hid (hB0.trans (hB.mono (by omega))); have B1 := Lib.hid (B0.out.kept (grown_of_below (k := some (w.heap.size + 1)) hB) (by omega)); have z0 := hB.size; clear hS)
    | (go_at_call 21; (with_reducible refine (l06Draw_c _ 0 (by omega) _ HS0.out).mono ?_); rintro e w1 ⟨⟨a, g, c, d, rfl, qa0, qa1⟩, hS, hG⟩; have HS1 := Lib.hid hS; have HB1 := Lib.hid (below_grown HB0.out hG (by omega) (by omega)); have B2 := Lib.hid (B1.out.kept hG (by omega)); have z1 := hG.size; clear hS; have B9 := Lib.hid (Box4.new w1 25 a g c d)))
  have hpp := HS1.out.1
  have HS9 := Lib.hid (HS1.out.below ((Below.refl w1.heap.size w1).alloc (Nat.le_refl _) (.cells #[.int .i64 a, .int .i64 g, .int .i64 c, .int .i64 d] 25)))
  have B8 := Lib.hid (B2.out.kept (grown_alloc (World.grownBy.refl w1 (some (w.heap.size + 1))) (.cells #[.int .i64 a, .int .i64 g, .int .i64 c, .int .i64 d] 25)) (by omega))
  have HB9 := Lib.hid (HB1.out.alloc (show w.heap.size ≤ w1.heap.size by omega) (.cells #[.int .i64 a, .int .i64 g, .int .i64 c, .int .i64 d] 25))
  have l9 : w1.heap.size < (w1.alloc (.cells #[.int .i64 a, .int .i64 g, .int .i64 c, .int .i64 d] 25)).heap.size := by simp
  generalize (w1.alloc (.cells #[.int .i64 a, .int .i64 g, .int .i64 c, .int .i64 d] 25)) = W9 at HS9 B8 HB9 B9 l9 ⊢
  go_wp2_with (go_at_call 28; (with_reducible refine (one_c _ (0 + 12) 4 (by omega) (by omega) _ HS9.out).mono ?_); rintro e w2 ⟨⟨b, rfl⟩, hS, hG⟩; have HSa := Lib.hid hS; have HBa := Lib.hid (below_grown HB9.out hG (by omega) (by omega)); have B9a := Lib.hid (B9.out.kept hG (by omega)); have B8a := Lib.hid (B8.out.kept hG (by omega)); have za := hG.size; clear hS; cases b)
  all_goals
    obtain ⟨m0, c90, c91, c92, c93, f9⟩ := B9a.out
    obtain ⟨m1, c80, c81, c82, c83, f8⟩ := B8a.out
    have f80 := f8 0
    have f81 := f8 1
    have f82 := f8 2
    have f83 := f8 3
    have n98 : ¬ w1.heap.size = w.heap.size := by omega
    have n89 : ¬ w.heap.size = w1.heap.size := by omega
    go_region_with (first | (go_at_call 22; (first | with_reducible refine (amongC_c (w.heap.size + 1) (0 + 12 + 2) _ _ (by omega) _ _ (by first | rfl | simp) HSa.out).mono ?_ | with_reducible refine (amongC_d (w.heap.size + 1) (0 + 12 + 2) _ _ (by omega) _ _ (by first | rfl | simp) HSa.out).mono ?_ | refine (amongC_d (w.heap.size + 1) (0 + 12 + 2) _ _ (by omega) _ _ (by first | rfl | simp) (by exact HSa.out)).mono ?_); rintro e w4 ⟨⟨x, rfl⟩, hS, hG⟩; have C9 : Box4 w1.heap.size w4 a g c d := (by refine Box4.kept ?_ hG (by omega); exact B9a.out); obtain ⟨k0, d90, d91, d92, d93, g9⟩ := C9; have C8 : Box4 w.heap.size w4 0 0 0 0 := (by refine Box4.kept ?_ hG (by omega); exact B8a.out); obtain ⟨k1, d80, d81, d82, d83, g8⟩ := C8; have g80 := g8 0; have g81 := g8 1; have g82 := g8 2; have g83 := g8 3; have HB4 : Below w.heap.size w w4 := (by refine below_grown ?_ hG (by first | omega | (show w.heap.size ≤ w2.heap.size; omega)) (by omega); first | exact HBa.out.drew | exact bdrewN HBa.out 1 | exact HBa.out); clear hS) | (go_at_call 27; (refine (pick_c (w.heap.size + 1) (0 + 12 + 2) 500000 (by omega) (by omega) _ (by exact HSa.out)).mono ?_); rintro e w4 ⟨⟨x, x0, x1, rfl⟩, hS, hG⟩; have C9 : Box4 w1.heap.size w4 a g c d := (by refine Box4.kept ?_ hG (by omega); exact B9a.out); obtain ⟨k0, d90, d91, d92, d93, g9⟩ := C9; have C8 : Box4 w.heap.size w4 0 0 0 0 := (by refine Box4.kept ?_ hG (by omega); exact B8a.out); obtain ⟨k1, d80, d81, d82, d83, g8⟩ := C8; have g80 := g8 0; have g81 := g8 1; have g82 := g8 2; have g83 := g8 3; have HB4 : Below w.heap.size w w4 := (by refine below_grown ?_ hG (by first | omega | (show w.heap.size ≤ w2.heap.size; omega)) (by omega); first | exact HBa.out.drew | exact bdrewN HBa.out 1 | exact HBa.out); clear hS))
  all_goals
    go_wp2
    ((try simp only [Exit.inBlock, Exit.then]); first | (refine bodyPost_ret (by simp [results, Tryz.results11, go_sem, *]; try rfl) rfl ?_) | (obtain ⟨u0, q0⟩ : ∃ u, w'.cell? ⟨w.heap.size, 0, none⟩ = some u := ⟨_, by simp [*, go_sem]; rfl⟩; obtain ⟨u1, q1⟩ : ∃ u, w'.cell? ⟨w.heap.size, 1, none⟩ = some u := ⟨_, by simp [*, go_sem]; rfl⟩; obtain ⟨u2, q2⟩ : ∃ u, w'.cell? ⟨w.heap.size, 2, none⟩ = some u := ⟨_, by simp [*, go_sem]; rfl⟩; obtain ⟨u3, q3⟩ : ∃ u, w'.cell? ⟨w.heap.size, 3, none⟩ = some u := ⟨_, by simp [*, go_sem]; rfl⟩; refine bodyPost_ret (by simp [results, Tryz.results11, go_sem, q0, q1, q2, q3]; try rfl) rfl ?_))
    refine ⟨⟨_, _, _, _, _, rfl⟩, ?_⟩
    exact (((HB4.setCell (Nat.le_refl _) _).setCell (Nat.le_refl _) _).setCell (Nat.le_refl _) _).setCell (Nat.le_refl _) _
end Go.Proofs.YthemojobalcopaaGreatDoor
