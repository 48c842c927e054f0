/- Drawn tracks as the law takes them. -/
import Derived.Test.YtmkfkpfblnblgaaDT
import Derived.Test.YtmkfkpfblnblgaaX7
namespace Go.Proofs.Ytmkfkpfblnblgaa
open Go.ChangeShapes Go.WideShapes Go.ChangeAt Go.RowKit
set_option linter.unusedVariables false
set_option linter.unusedSimpArgs false

set_option maxRecDepth 100000 in
set_option maxHeartbeats 2000000 in
theorem R8Track_c (A : Option Addr) (n c : Nat) (hn : n ≤ 1048576) (w : World) (hr : RowB w A n) : Calls Try.prog 35 #[.slice A n c] w fun e w' => (∃ (A : Option Addr) (n c : Nat) (z : List Int) (f u : Int), e = .returned (.agg #[.slice A n c, .int .i64 f, .int .i64 u]) ∧ z.length = n * 2 ∧ (1 ≤ n ∧ n ≤ 5) ∧ DrawnS z n ∧ trackB z n f u = true ∧ RowI w' A z) ∧ Below w.heap.size w w' := by
  have hB0 : Below w.heap.size w (w.alloc (.cells #[.slice none 0 0, .int .i64 0, .int .i64 0] 30)) := (Below.refl _ _).alloc (Nat.le_refl _) _
  have B0 := Lib.hid (TBx.new w 30 (.slice none 0 0) 0 0)
  have hr0 := hr.below hB0
  have zz : (w.alloc (.cells #[.slice none 0 0, .int .i64 0, .int .i64 0] 30)).heap.size = w.heap.size + 1 := by simp
  generalize hW : w.alloc (.cells #[.slice none 0 0, .int .i64 0, .int .i64 0] 30) = W at hB0 B0 hr0 zz
  go_enter Try.func35, Try.ntmps35
  go_wp2_with (first
    | (go_at_call 66; (with_reducible refine (l00From_c A n c hn _ hr0).mono ?_); rintro e w0 ⟨rfl, hS, hB⟩; have HS0 := Lib.hid (show Src (w.heap.size + 1) 0 w0 by rw [← zz]; exact hS); have HB0 := Lib.hid (hB0.trans (hB.mono (by omega))); have B1 := Lib.hid (B0.out.kept (grown_of_below (k := some (w.heap.size + 1)) hB) (by omega)); have z0 := hB.size; clear hS)
    | (go_at_call 67; (with_reducible refine (l03Draw_c _ 0 (by omega) _ HS0.out).mono ?_); rintro e w1 ⟨⟨A1, n1, c1, z1, f1, u1, rfl, hz1, hn1, hd1, ht1, hr1, ha1⟩, hS, hG⟩; have HB1 := Lib.hid (below_grown HB0.out hG (by omega) (by omega)); have B2 := Lib.hid (B1.out.kept hG (by omega)); have z1s := hG.size; clear hS; have HR1 := Lib.hid hr1; have HD1 := Lib.hid hd1; have HT1 := Lib.hid ht1; clear hr1 hd1 ht1; obtain ⟨m1, c80, c81, c82, f8⟩ := B2.out; have f80 := f8 0; have f81 := f8 1; have f82 := f8 2))
  ((try simp only [Exit.inBlock, Exit.then]); first | (refine bodyPost_ret (by simp [results, Try.results35, go_sem, *]; try rfl) rfl ?_) | (obtain ⟨u0, q0⟩ : ∃ u, w'.cell? ⟨w.heap.size, 0, none⟩ = some u := ⟨_, by simp [*, go_sem]; rfl⟩; obtain ⟨u1, q1⟩ : ∃ u, w'.cell? ⟨w.heap.size, 1, none⟩ = some u := ⟨_, by simp [*, go_sem]; rfl⟩; obtain ⟨u2, q2⟩ : ∃ u, w'.cell? ⟨w.heap.size, 2, none⟩ = some u := ⟨_, by simp [*, go_sem]; rfl⟩; refine bodyPost_ret (by simp [results, Try.results35, go_sem, q0, q1, q2]; try rfl) rfl ?_))
  have nA2 : ∀ g o, A1 = some ⟨g, o, none⟩ → g ≠ w.heap.size := fun g o e => by have := ha1 g o e; omega
  exact ⟨⟨A1, n1, c1, z1, f1, u1, rfl, hz1, hn1, HD1.out, HT1.out, ((HR1.out.kept (grown_set (World.grownBy.refl _ _) _ _) nA2).kept (grown_set (World.grownBy.refl _ _) _ _) nA2).kept (grown_set (World.grownBy.refl _ _) _ _) nA2⟩, ((HB1.out.setCell (Nat.le_refl _) _).setCell (Nat.le_refl _) _).setCell (Nat.le_refl _) _⟩
set_option maxHeartbeats 2000000 in
theorem trackLength_c (A : Option Addr) (n c : Nat) (z : List Int) (f u : Int) (hz : z.length = n * 2) (hn : n ≤ 12) (ht : trackB z n f u = true) (w : World) (hr : RowI w A z) : Calls Try.prog 36 #[.agg #[.slice A n c, .int .i64 f, .int .i64 u]] w fun e w' => e = .returned (.tuple #[.int .i64 (lenTo z n), .int .i64 0]) ∧ Below w.heap.size w w' := by
  have hs := (trackB_true ht).2.1
  have T0 := TBx.new w 30 (.slice A n c) f u
  have hr1 := hr.alloc (.cells #[.slice A n c, .int .i64 f, .int .i64 u] 30)
  have hb1 : Below w.heap.size w (w.alloc (.cells #[.slice A n c, .int .i64 f, .int .i64 u] 30)) := (Below.refl _ _).alloc (Nat.le_refl _) _
  generalize hW : w.alloc (.cells #[.slice A n c, .int .i64 f, .int .i64 u] 30) = W at T0 hr1 hb1
  have HT := Lib.hid ht
  have HS := Lib.hid hs
  have HR := Lib.hid hr1
  clear ht hs hr1 hr
  obtain ⟨tl, t0, t1, t2, _⟩ := T0
  go_enter Try.func36, Try.ntmps36
  go_wp2_with (first
    | (go_at_call 68; (refine (l03Ok_c A n c z f u w.heap.size hz (by omega) W HR.out t0 t1 t2).mono ?_); rw [HT.out]; rintro e w1 ⟨rfl, q1, hw1⟩; have HR1 := Lib.hid (show RowI w1 A z by rw [hw1]; exact HR.out.drewN q1); have HB1 := Lib.hid (show Below w.heap.size w w1 by rw [hw1]; exact bdrewN hb1 q1); have s0 : w1.cell? ⟨w.heap.size, 0, none⟩ = some (.slice A n c) := (by rw [hw1]; exact t0); clear hw1)
    | (go_at_call 55; (refine (l03Length_c A n c z w.heap.size hz hn HS.out _ HR1.out s0).mono ?_); rintro e w' ⟨rfl, rfl⟩))
  go_returns
  exact ⟨by simp, HB1.out⟩
theorem r8Abs_c (n : Int) (h0 : -4000000000 ≤ n) (h1 : n ≤ 4000000000) (w : World) : Calls Try.prog 38 #[.int .i64 n] w fun e w' => e = .returned (.int .i64 (absI n)) ∧ w = w' := by
  by_cases h : n < -n
  · have e : absI n = -n := by unfold absI; rw [if_pos (by omega)]
    rw [e]
    go_enter Try.func38, Try.ntmps38
    go_wp2
    go_ret
    simp [h]
  · have e : absI n = n := by unfold absI; split <;> omega
    rw [e]
    go_enter Try.func38, Try.ntmps38
    go_wp2
    go_ret
    simp [h]
end Go.Proofs.Ytmkfkpfblnblgaa
