/- DrawSpeedAllowed. -/
import Derived.Test.YteddchnmjppdeaaD4
namespace Go.Proofs.Yteddchnmjppdeaa
open Go.ChangeShapes Go.WideShapes Go.ChangeAt Go.RowKit
set_option linter.unusedVariables false
set_option linter.unusedSimpArgs false

set_option maxRecDepth 100000 in
set_option maxHeartbeats 4000000 in
theorem DrawSpeedAllowed_c (A : Option Addr) (n c : Nat) (hn : n ≤ 1048576) (w : World) (hr : RowB w A n) : Calls Try.prog 21 #[.slice A n c] w fun e w' => (∃ (A : Option Addr) (n c : Nat) (z : List Int) (r d x s : Int), e = .returned (.tuple #[.slice A n c, .agg #[.int .i64 r, .int .i64 d, .int .i64 x], .int .i64 s]) ∧ z.length = n * 3 ∧ (n ≤ 100 ∧ n ≤ c) ∧ RowI w' A z) ∧ Below w.heap.size w w' := by
  have hB0 : Below w.heap.size w (w.alloc (.cells #[.int .i64 0, .int .i64 0, .int .i64 0] 40)) := (Below.refl _ _).alloc (Nat.le_refl _) _
  have B0 := Lib.hid (Box3.new w 40 0 0 0)
  have hr0 := hr.below hB0
  have zz : (w.alloc (.cells #[.int .i64 0, .int .i64 0, .int .i64 0] 40)).heap.size = w.heap.size + 1 := by simp
  generalize hW : w.alloc (.cells #[.int .i64 0, .int .i64 0, .int .i64 0] 40) = W at hB0 B0 hr0 zz
  go_enter Try.func21, Try.ntmps21
  go_wp2_with (first | (go_at_call 39; (with_reducible refine (l00From_c A n c hn _ hr0).mono ?_); rintro e w0 ⟨rfl, hS, hB⟩; have HS0 := Lib.hid (show Src (w.heap.size + 1) 0 w0 by rw [← zz]; exact hS); have HB0 := Lib.hid (hB0.trans (hB.mono (by omega))); have B1 := Lib.hid (B0.out.kept (grown_of_below (k := some (w.heap.size + 1)) hB) (by omega)); have z0 := hB.size; clear hS) | (go_at_call 44; (with_reducible refine (l08DrawLimits_c _ 0 (by omega) _ HS0.out).mono ?_); rintro e w1 ⟨⟨A1, m, c1, z, rfl, hz, hm, hR, hA1⟩, hS, hG⟩; have HS1 := Lib.hid hS; have HB1 := Lib.hid (below_grown HB0.out hG (by omega) (by omega)); have B2 := Lib.hid (B1.out.kept hG (by omega)); have z1 := hG.size; clear hS) | (go_at_call 46; (with_reducible refine (l08DrawOne_c _ (0 + 200) (by omega) _ HS1.out).mono ?_); rintro e w2 ⟨⟨r, d, x, rfl⟩, hS, hG⟩; have HS2 := Lib.hid hS; have HB2 := Lib.hid (below_grown HB1.out hG (by omega) (by omega)); have B3 := Lib.hid (B2.out.kept hG (by omega)); have z2 := hG.size; clear hS; have hR2 := hR.kept hG (fun g o e => Nat.ne_of_gt (hA1 g o e))) | (go_at_call 45; (with_reducible refine (l08Bent_c _ (0 + 200 + 8) (by omega) _ _ _ _ HS2.out).mono ?_); rintro e w3 ⟨⟨r3, d3, x3, rfl⟩, hS, hG⟩; have HS3 := Lib.hid hS; have HB3 := Lib.hid (below_grown HB2.out hG (by omega) (by omega)); have B4 := Lib.hid (B3.out.kept hG (by omega)); have z3 := hG.size; clear hS; have hR3 := hR2.kept hG (fun g o e => Nat.ne_of_gt (hA1 g o e)); have B9 := Lib.hid (Box3.new w3 40 r3 d3 x3)))
  have hpp := HS3.out.1
  have HS9 := Lib.hid (HS3.out.below ((Below.refl w3.heap.size w3).alloc (Nat.le_refl _) (.cells #[.int .i64 r3, .int .i64 d3, .int .i64 x3] 40)))
  have B8 := Lib.hid (B4.out.kept (grown_alloc (World.grownBy.refl w3 (some (w.heap.size + 1))) (.cells #[.int .i64 r3, .int .i64 d3, .int .i64 x3] 40)) (by omega))
  have HB9 := Lib.hid (HB3.out.alloc (show w.heap.size ≤ w3.heap.size by omega) (.cells #[.int .i64 r3, .int .i64 d3, .int .i64 x3] 40))
  have hR9 := hR3.alloc (.cells #[.int .i64 r3, .int .i64 d3, .int .i64 x3] 40)
  have l9 : w3.heap.size < (w3.alloc (.cells #[.int .i64 r3, .int .i64 d3, .int .i64 x3] 40)).heap.size := by simp
  generalize (w3.alloc (.cells #[.int .i64 r3, .int .i64 d3, .int .i64 x3] 40)) = W9 at HS9 B8 HB9 hR9 B9 l9 ⊢
  obtain ⟨m0, c90, c91, c92, f9⟩ := B9.out
  obtain ⟨m1, c80, c81, c82, f8⟩ := B8.out
  have f80 := f8 0
  have f81 := f8 1
  have f82 := f8 2
  have n98 : ¬ w3.heap.size = w.heap.size := by omega
  have n89 : ¬ w.heap.size = w3.heap.size := by omega
  go_region_with (first | (go_at_call 47; (refine (l04DrawSpeed_c (w.heap.size + 1) (0 + 200 + 8 + 4) (by omega) _ (by first | exact HS9.out | exact (HS9.out.other (by omega) _ _) | exact ((HS9.out.other (by omega) _ _).other (by omega) _ _) | exact (((HS9.out.other (by omega) _ _).other (by omega) _ _).other (by omega) _ _))).mono ?_); rintro e w4 ⟨⟨s4, rfl⟩, hS, hG⟩; have C9 : Box3 w3.heap.size w4 r3 d3 x3 := (by refine Box3.kept ?_ hG (by omega); first | exact B9.out | exact B9.out.other n98 _ _ | exact (B9.out.other n98 _ _).other n98 _ _ | exact ((B9.out.other n98 _ _).other n98 _ _).other n98 _ _); obtain ⟨v0, v1, v2, C8⟩ : ∃ v0 v1 v2, Box3 w.heap.size w4 v0 v1 v2 := (by first | exact ⟨0, 0, 0, by refine Box3.kept ?_ hG (by omega); exact B8.out⟩ | exact ⟨r3, d3, x3, by refine Box3.kept ?_ hG (by omega); exact ((B8.out.set0 _).set1 _).set2 _⟩); obtain ⟨k0, d90, d91, d92, g9⟩ := C9; obtain ⟨k1, d80, d81, d82, g8⟩ := C8; have g80 := g8 0; have g81 := g8 1; have g82 := g8 2; have hR4 : RowI w4 A1 z := (by refine RowI.kept ?_ hG (fun g o e => Nat.ne_of_gt (hA1 g o e)); exact hR9); have HB4 : Below w.heap.size w w4 := (by refine below_grown ?_ hG (by first | omega | (show w.heap.size ≤ W9.heap.size; omega)) (by omega); first | exact HB9.out.drew | exact bdrewN HB9.out 1 | exact HB9.out)))
  all_goals
    go_wp2
    ((try simp only [Exit.inBlock, Exit.then]); first | (refine bodyPost_ret (by simp [results, Try.results21, go_sem, *]; try rfl) rfl ?_) | (obtain ⟨u0, q0⟩ : ∃ u, w'.cell? ⟨w.heap.size, 0, none⟩ = some u := ⟨_, by simp [*, go_sem]; rfl⟩; obtain ⟨u1, q1⟩ : ∃ u, w'.cell? ⟨w.heap.size, 1, none⟩ = some u := ⟨_, by simp [*, go_sem]; rfl⟩; obtain ⟨u2, q2⟩ : ∃ u, w'.cell? ⟨w.heap.size, 2, none⟩ = some u := ⟨_, by simp [*, go_sem]; rfl⟩; refine bodyPost_ret (by simp [results, Try.results21, go_sem, q0, q1, q2]; try rfl) rfl ?_))
    have ne1 : ∀ g o, A1 = some ⟨g, o, none⟩ → g ≠ w.heap.size := fun g o e => by have := hA1 g o e; omega
    refine ⟨⟨A1, m, c1, z, r3, d3, x3, s4, rfl, hz, hm, ?_⟩, ?_⟩
    · exact ((hR4.kept (grown_set (World.grownBy.refl _ _) _ _) ne1).kept (grown_set (World.grownBy.refl _ _) _ _) ne1).kept (grown_set (World.grownBy.refl _ _) _ _) ne1
    · exact ((HB4.setCell (Nat.le_refl _) _).setCell (Nat.le_refl _) _).setCell (Nat.le_refl _) _
end Go.Proofs.Yteddchnmjppdeaa
