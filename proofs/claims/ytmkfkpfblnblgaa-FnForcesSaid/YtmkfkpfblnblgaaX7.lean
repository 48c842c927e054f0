/- Contracts of the reference's functions on tracks and forces: validity, codes, forces. -/
import Derived.Test.YtmkfkpfblnblgaaX6
namespace Go.Proofs.Ytmkfkpfblnblgaa
open Go.ChangeShapes Go.WideShapes Go.ChangeAt Go.RowKit
set_option linter.unusedVariables false
set_option linter.unusedSimpArgs false

set_option maxHeartbeats 2000000 in
theorem l03Ok_c (A : Option Addr) (n c : Nat) (z : List Int) (f u : Int) (b : Nat) (hz : z.length = n * 2) (hn : n ≤ 1048576) (w : World) (hr : RowI w A z) (h0 : w.cell? ⟨b, 0, none⟩ = some (.slice A n c)) (h1 : w.cell? ⟨b, 1, none⟩ = some (.int .i64 f)) (h2 : w.cell? ⟨b, 2, none⟩ = some (.int .i64 u)) : Calls Try.prog 68 #[.pointer (some ⟨b, 0, none⟩)] w fun e w' => e = .returned (.bool (trackB z n f u)) ∧ ∃ m, w' = w.drewN m := by
  go_enter Try.func68, Try.ntmps68
  go_wp2
  go_loop [3] (fun i => ∃ k : Nat, k ≤ n ∧ i = .int .i64 k ∧ Hid (∀ j, j < k → secB z j = true)) (fun i => n - (intOf i).toNat)
  case atStart => exact ⟨0, by omega, rfl, Lib.hid (fun j hj => by omega)⟩
  case round =>
    obtain ⟨k, hk, rfl, HK⟩ := hrel
    by_cases hlt : k < n
    · obtain ⟨b', off, rfl, hbb, c1, c2⟩ := hr.sec hz hlt
      have i1 : (k : Int) < n := by omega
      cases hq : secB z k
      · have HF := Lib.hid (show trackB z n f u = false by simp [trackB, secsB_bad hlt hq])
        unfold secB at hq
        cases g1 : inB (secL z k) 1 3000000 <;> cases g2 : inB (secG z k) 0 900
        case true.true => simp [g1, g2] at hq
        all_goals
          clear hq
          go_wp2_with
            (first
              | (go_at_call 83; go_call (l00In_c _ _ _ _); rintro e w' ⟨rfl, rfl⟩))
          go_ret
          exact ⟨by (rw [HF.out]) <;> rfl, 0, rfl⟩
      · have HN := Lib.hid (show ∀ j, j < k + 1 → secB z j = true from fun j hj => by
          rcases Nat.lt_or_ge j k with h1 | h1
          · exact HK.out j h1
          · obtain rfl : j = k := by omega
            exact hq)
        unfold secB at hq
        obtain ⟨g1, g2⟩ := Bool.and_eq_true_iff.1 hq
        clear hq
        go_wp2_with
          (first
            | (go_at_call 83; go_call (l00In_c _ _ _ _); rintro e w' ⟨rfl, rfl⟩))
        go_round
        case rel => exact ⟨k + 1, by omega, by go_num, HN⟩
        case measure => simp [intOf]; omega
    · obtain rfl : k = n := by omega
      have hs : secsB z k = true := secsB_good HK.out
      by_cases n0 : 1 ≤ k
      rotate_left
      · have HF := Lib.hid (show trackB z k f u = false by simp [trackB, n0])
        have n0' : ((k : Int) == 0) = true := by simp; omega
        go_wp2
        go_ret
        exact ⟨by (rw [HF.out]) <;> rfl, 0, rfl⟩
      by_cases n1 : k ≤ 12
      rotate_left
      · have HF := Lib.hid (show trackB z k f u = false by simp [trackB, n1])
        have n0' : ((k : Int) == 0) = false := beq_eq_false_iff_ne.2 (by omega)
        have n1' : (12 : Int) < k := by omega
        go_wp2
        go_ret
        exact ⟨by (rw [HF.out]) <;> rfl, 0, rfl⟩
      have n0' : ((k : Int) == 0) = false := beq_eq_false_iff_ne.2 (by omega)
      have n1' : (k : Int) ≤ 12 := by omega
      cases g1 : decide (lenTo z k ≤ 3000000)
      · have HF := Lib.hid (show trackB z k f u = false by simp [trackB, g1])
        go_wp2_with
          (first
            | (go_at_call 55; (apply Calls.mono; focus ((with_reducible apply (l03Length_c _ _ _ z _ hz n1 hs)); (all_goals (first | (with_reducible assumption) | omega | ((repeat (first | (with_reducible assumption) | (with_reducible refine RowI.drewN ?_ _) | (with_reducible refine RowI.drew ?_) | (with_reducible refine RowI.alloc ?_ _) | (with_reducible refine RowI.below ?_ (by with_reducible assumption)))); done) | assumption | (simp; done) | (simp [*]; done))); done)); rintro e w' ⟨rfl, rfl⟩))
        go_quiet (fail)
        go_wp2
        go_ret
        exact ⟨by (rw [HF.out]) <;> first | rfl | (simp [*]; done), (by first | exact ⟨_, rfl⟩ | exact ⟨_, World.drewN_drewN _ _ _⟩ | exact ⟨0, rfl⟩)⟩
      · cases g2 : inB f 0 (lenTo z k)
        · have HF := Lib.hid (show trackB z k f u = false by simp [trackB, g2])
          go_wp2_with
            (first
              | (go_at_call 55; (apply Calls.mono; focus ((with_reducible apply (l03Length_c _ _ _ z _ hz n1 hs)); (all_goals (first | (with_reducible assumption) | omega | ((repeat (first | (with_reducible assumption) | (with_reducible refine RowI.drewN ?_ _) | (with_reducible refine RowI.drew ?_) | (with_reducible refine RowI.alloc ?_ _) | (with_reducible refine RowI.below ?_ (by with_reducible assumption)))); done) | assumption | (simp; done) | (simp [*]; done))); done)); rintro e w' ⟨rfl, rfl⟩))
          go_quiet ((go_at_call 83; first | with_reducible exact quiet_add_left (l00In_v g2 _) | with_reducible exact quiet_left (l00In_v g2 _)))
          go_wp2
          go_ret
          exact ⟨by (rw [HF.out]) <;> first | rfl | (simp [*]; done), (by first | exact ⟨_, rfl⟩ | exact ⟨_, World.drewN_drewN _ _ _⟩ | exact ⟨0, rfl⟩)⟩
        · have HF := Lib.hid (show trackB z k f u = inB u f (lenTo z k) by simp [trackB, n0, n1, hs, of_decide_eq_true g1, g2])
          go_wp2_with
            (first
              | (go_at_call 55; (apply Calls.mono; focus ((with_reducible apply (l03Length_c _ _ _ z _ hz n1 hs)); (all_goals (first | (with_reducible assumption) | omega | ((repeat (first | (with_reducible assumption) | (with_reducible refine RowI.drewN ?_ _) | (with_reducible refine RowI.drew ?_) | (with_reducible refine RowI.alloc ?_ _) | (with_reducible refine RowI.below ?_ (by with_reducible assumption)))); done) | assumption | (simp; done) | (simp [*]; done))); done)); rintro e w' ⟨rfl, rfl⟩))
          go_quiet ((go_at_call 83; first | with_reducible exact quiet_add_left (l00In_v g2 _) | with_reducible exact quiet_left (l00In_v g2 _) | with_reducible exact quiet_add_left (l00In_c _ _ _ _) | with_reducible exact quiet_left (l00In_c _ _ _ _)))
          go_wp2
          go_ret
          exact ⟨by (rw [HF.out]) <;> first | rfl | (simp [*]; done), (by first | exact ⟨_, rfl⟩ | exact ⟨_, World.drewN_drewN _ _ _⟩ | exact ⟨0, rfl⟩)⟩
theorem l03Ok_v {A : Option Addr} {n c : Nat} {z : List Int} {f u : Int} {g : Bool} (hg : trackB z n f u = g) (b : Nat) (hz : z.length = n * 2) (hn : n ≤ 1048576) (w : World) (hr : RowI w A z) (h0 : w.cell? ⟨b, 0, none⟩ = some (.slice A n c)) (h1 : w.cell? ⟨b, 1, none⟩ = some (.int .i64 f)) (h2 : w.cell? ⟨b, 2, none⟩ = some (.int .i64 u)) : Calls Try.prog 68 #[.pointer (some ⟨b, 0, none⟩)] w fun e w' => e = .returned (.bool g) ∧ ∃ m, w' = w.drewN m := by
  subst hg
  exact l03Ok_c A n c z f u b hz hn w hr h0 h1 h2
theorem l03Place_c (A : Option Addr) (n c : Nat) (z : List Int) (x : Int) (b : Nat) (hz : z.length = n * 2) (hn : n ≤ 12) (hs : secsB z n = true) (w : World) (hr : RowI w A z) (h0 : w.cell? ⟨b, 0, none⟩ = some (.slice A n c)) : Calls Try.prog 86 #[.pointer (some ⟨b, 0, none⟩), .int .i64 x] w fun e w' => e = .returned (.bool (inB x 0 (lenTo z n))) ∧ w = w' := by
  go_enter Try.func86, Try.ntmps86
  go_wp2_with
    (first
      | (go_at_call 55; (apply Calls.mono; focus ((with_reducible apply (l03Length_c _ _ _ z _ hz hn hs)); (all_goals (first | (with_reducible assumption) | omega | ((repeat (first | (with_reducible assumption) | (with_reducible refine RowI.drewN ?_ _) | (with_reducible refine RowI.drew ?_) | (with_reducible refine RowI.alloc ?_ _) | (with_reducible refine RowI.below ?_ (by with_reducible assumption)))); done) | assumption | (simp; done) | (simp [*]; done))); done)); rintro e w' ⟨rfl, rfl⟩)
      | (go_at_call 83; go_call (l00In_c _ _ _ _); rintro e w' ⟨rfl, rfl⟩))
  go_ret
  exact ⟨rfl, rfl⟩
theorem l03Place_v {A : Option Addr} {n c : Nat} {z : List Int} {x : Int} {g : Bool} (hg : inB x 0 (lenTo z n) = g) (b : Nat) (hz : z.length = n * 2) (hn : n ≤ 12) (hs : secsB z n = true) (w : World) (hr : RowI w A z) (h0 : w.cell? ⟨b, 0, none⟩ = some (.slice A n c)) : Calls Try.prog 86 #[.pointer (some ⟨b, 0, none⟩), .int .i64 x] w fun e w' => e = .returned (.bool g) ∧ w = w' := by
  subst hg
  exact l03Place_c A n c z x b hz hn hs w hr h0
theorem l03Ask_c (A : Option Addr) (n c : Nat) (z : List Int) (f u x : Int) (b : Nat) (hz : z.length = n * 2) (hn : n ≤ 1048576) (w : World) (hr : RowI w A z) (h0 : w.cell? ⟨b, 0, none⟩ = some (.slice A n c)) (h1 : w.cell? ⟨b, 1, none⟩ = some (.int .i64 f)) (h2 : w.cell? ⟨b, 2, none⟩ = some (.int .i64 u)) : Calls Try.prog 70 #[.pointer (some ⟨b, 0, none⟩), .int .i64 x] w fun e w' => e = .returned (.int .i64 (codeOf (trackB z n f u) (inB x 0 (lenTo z n)))) ∧ ∃ m, w' = w.drewN m := by
  cases ht : trackB z n f u
  · go_enter Try.func70, Try.ntmps70
    go_wp2_with
      (first
        | (go_at_call 68; (apply Calls.mono; focus ((with_reducible apply (l03Ok_v ht _ hz hn)); (all_goals (first | (with_reducible assumption) | omega | ((repeat (first | (with_reducible assumption) | (with_reducible refine RowI.drewN ?_ _) | (with_reducible refine RowI.drew ?_) | (with_reducible refine RowI.alloc ?_ _) | (with_reducible refine RowI.below ?_ (by with_reducible assumption)))); done) | assumption | (simp; done) | (simp [*]; done))); done)); rintro e w' ⟨rfl, nq, rfl⟩))
    go_ret
    exact ⟨by simp, (by first | exact ⟨_, rfl⟩ | exact ⟨_, World.drewN_drewN _ _ _⟩ | exact ⟨0, rfl⟩)⟩
  · obtain ⟨⟨n0, n1⟩, hs, _⟩ := trackB_true ht
    cases hx : inB x 0 (lenTo z n)
    all_goals
      go_enter Try.func70, Try.ntmps70
      go_wp2_with
        (first
          | (go_at_call 68; (apply Calls.mono; focus ((with_reducible apply (l03Ok_v ht _ hz hn)); (all_goals (first | (with_reducible assumption) | omega | ((repeat (first | (with_reducible assumption) | (with_reducible refine RowI.drewN ?_ _) | (with_reducible refine RowI.drew ?_) | (with_reducible refine RowI.alloc ?_ _) | (with_reducible refine RowI.below ?_ (by with_reducible assumption)))); done) | assumption | (simp; done) | (simp [*]; done))); done)); rintro e w' ⟨rfl, nq, rfl⟩)
          | (go_at_call 86; (apply Calls.mono; focus ((with_reducible apply (l03Place_v hx _ hz n1 hs)); (all_goals (first | (with_reducible assumption) | omega | ((repeat (first | (with_reducible assumption) | (with_reducible refine RowI.drewN ?_ _) | (with_reducible refine RowI.drew ?_) | (with_reducible refine RowI.alloc ?_ _) | (with_reducible refine RowI.below ?_ (by with_reducible assumption)))); done) | assumption | (simp; done) | (simp [*]; done))); done)); rintro e w' ⟨rfl, rfl⟩))
      go_ret
      exact ⟨by simp, (by first | exact ⟨_, rfl⟩ | exact ⟨_, World.drewN_drewN _ _ _⟩ | exact ⟨0, rfl⟩)⟩
theorem l07Kilos_c (n : Int) (w : World) : Calls Try.prog 71 #[.int .i64 n] w fun e w' => e = .returned (.bool (inB n 0 100000)) ∧ w = w' := by
  go_enter Try.func71, Try.ntmps71
  go_wp2_with
    (first
      | (go_at_call 83; go_call (l00In_c _ _ _ _); rintro e w' ⟨rfl, rfl⟩))
  all_goals (go_ret; simp [*])
theorem l07Rope_c (n : Int) (w : World) : Calls Try.prog 72 #[.int .i64 n] w fun e w' => e = .returned (.bool (inB n 0 20000)) ∧ w = w' := by
  go_enter Try.func72, Try.ntmps72
  go_wp2_with
    (first
      | (go_at_call 83; go_call (l00In_c _ _ _ _); rintro e w' ⟨rfl, rfl⟩))
  all_goals (go_ret; simp [*])
theorem l03Ask_v {A : Option Addr} {n c : Nat} {z : List Int} {f u x : Int} {g h : Bool} (hg : trackB z n f u = g) (hh : inB x 0 (lenTo z n) = h) (b : Nat) (hz : z.length = n * 2) (hn : n ≤ 1048576) (w : World) (hr : RowI w A z) (h0 : w.cell? ⟨b, 0, none⟩ = some (.slice A n c)) (h1 : w.cell? ⟨b, 1, none⟩ = some (.int .i64 f)) (h2 : w.cell? ⟨b, 2, none⟩ = some (.int .i64 u)) : Calls Try.prog 70 #[.pointer (some ⟨b, 0, none⟩), .int .i64 x] w fun e w' => e = .returned (.int .i64 (codeOf g h)) ∧ ∃ m, w' = w.drewN m := by
  subst hg
  subst hh
  exact l03Ask_c A n c z f u x b hz hn w hr h0 h1 h2
set_option maxHeartbeats 1000000 in
theorem l07Ask_c (A : Option Addr) (n c : Nat) (z : List Int) (f u x k o r : Int) (b : Nat) (hz : z.length = n * 2) (hn : n ≤ 1048576) (w : World) (hr : RowI w A z) (h0 : w.cell? ⟨b, 0, none⟩ = some (.slice A n c)) (h1 : w.cell? ⟨b, 1, none⟩ = some (.int .i64 f)) (h2 : w.cell? ⟨b, 2, none⟩ = some (.int .i64 u)) : Calls Try.prog 40 #[.pointer (some ⟨b, 0, none⟩), .int .i64 x, .int .i64 k, .int .i64 o, .int .i64 r] w fun e w' => e = .returned (.int .i64 (codeOf (trackB z n f u) (inB x 0 (lenTo z n) && (inB k 0 100000 && inB o 0 100000 && inB r 0 20000)))) ∧ ∃ m, w' = w.drewN m := by
  cases ht : trackB z n f u <;> cases hx : inB x 0 (lenTo z n)
  case true.true =>
    cases hk : inB k 0 100000 <;> cases ho : inB o 0 100000 <;> cases hq : inB r 0 20000
    all_goals
      go_enter Try.func40, Try.ntmps40
      go_wp2_with
        (first
          | (go_at_call 70; (apply Calls.mono; focus ((with_reducible apply (l03Ask_v ht hx _ hz hn)); (all_goals (first | (with_reducible assumption) | omega | ((repeat (first | (with_reducible assumption) | (with_reducible refine RowI.drewN ?_ _) | (with_reducible refine RowI.drew ?_) | (with_reducible refine RowI.alloc ?_ _) | (with_reducible refine RowI.below ?_ (by with_reducible assumption)))); done) | assumption | (simp; done) | (simp [*]; done))); done)); rintro e w' ⟨rfl, nq, rfl⟩)
          | (go_at_call 71; go_call (l07Kilos_c _ _); rintro e w' ⟨rfl, rfl⟩)
          | (go_at_call 72; go_call (l07Rope_c _ _); rintro e w' ⟨rfl, rfl⟩))
      go_ret
      exact ⟨by simp, (by first | exact ⟨_, rfl⟩ | exact ⟨_, World.drewN_drewN _ _ _⟩ | exact ⟨0, rfl⟩)⟩
  all_goals
    go_enter Try.func40, Try.ntmps40
    go_wp2_with
      (first
        | (go_at_call 70; (apply Calls.mono; focus ((with_reducible apply (l03Ask_v ht hx _ hz hn)); (all_goals (first | (with_reducible assumption) | omega | ((repeat (first | (with_reducible assumption) | (with_reducible refine RowI.drewN ?_ _) | (with_reducible refine RowI.drew ?_) | (with_reducible refine RowI.alloc ?_ _) | (with_reducible refine RowI.below ?_ (by with_reducible assumption)))); done) | assumption | (simp; done) | (simp [*]; done))); done)); rintro e w' ⟨rfl, nq, rfl⟩))
    go_ret
    exact ⟨by simp, (by first | exact ⟨_, rfl⟩ | exact ⟨_, World.drewN_drewN _ _ _⟩ | exact ⟨0, rfl⟩)⟩
theorem l07Car_c (A : Option Addr) (n c : Nat) (z : List Int) (x k : Int) (b : Nat) (hz : z.length = n * 2) (n0 : 1 ≤ n) (n1 : n ≤ 12) (hs : secsB z n = true) (x0 : 0 ≤ x) (x1 : x ≤ 3000000) (k0 : 0 ≤ k) (k1 : k ≤ 100000) (w : World) (hr : RowI w A z) (h0 : w.cell? ⟨b, 0, none⟩ = some (.slice A n c)) : Calls Try.prog 41 #[.pointer (some ⟨b, 0, none⟩), .int .i64 x, .int .i64 k] w fun e w' => e = .returned (.int .i64 (carI z n x k)) ∧ ∃ m, w' = w.drewN m := by
  obtain ⟨⟨a0, a1⟩, a2, a3⟩ := car_arg hs n0 (x := x) k0 k1
  have hc : carI z n x k = divR (k * 981 * grdI z n x) 100000 := rfl
  rw [hc]
  clear hc
  go_enter Try.func41, Try.ntmps41
  go_wp2_with
    (first
      | (go_at_call 74; (apply Calls.mono; focus ((with_reducible apply (l03Grade_c _ _ _ z _ _ hz n0 n1 hs x0 x1)); (all_goals (first | (with_reducible assumption) | omega | ((repeat (first | (with_reducible assumption) | (with_reducible refine RowI.drewN ?_ _) | (with_reducible refine RowI.drew ?_) | (with_reducible refine RowI.alloc ?_ _) | (with_reducible refine RowI.below ?_ (by with_reducible assumption)))); done) | assumption | (simp; done) | (simp [*]; done))); done)); rintro e w' ⟨rfl, nq, rfl⟩)
      | (go_at_call 73; go_call (l01Div_c); rintro e w' ⟨rfl, rfl⟩))
  go_ret
  exact ⟨rfl, (by first | exact ⟨_, rfl⟩ | exact ⟨_, World.drewN_drewN _ _ _⟩ | exact ⟨0, rfl⟩)⟩
theorem l07Above_c (A : Option Addr) (n c : Nat) (z : List Int) (x r : Int) (b : Nat) (hz : z.length = n * 2) (n1 : n ≤ 12) (hs : secsB z n = true) (x0 : 0 ≤ x) (x1 : x ≤ lenTo z n) (hl : lenTo z n ≤ 3000000) (r0 : 0 ≤ r) (r1 : r ≤ 20000) (w : World) (hr : RowI w A z) (h0 : w.cell? ⟨b, 0, none⟩ = some (.slice A n c)) : Calls Try.prog 47 #[.pointer (some ⟨b, 0, none⟩), .int .i64 x, .int .i64 r] w fun e w' => e = .returned (.int .i64 (ropI z n x r)) ∧ w = w' := by
  obtain ⟨⟨a0, a1⟩, ⟨a2, a3⟩, a4, a5⟩ := rop_arg hs r0 r1 x0 x1 hl
  have b0 : 0 ≤ lenTo z n := by omega
  have x2 : x ≤ 3000000 := by omega
  obtain ⟨h3, h4⟩ := hgtI_bd hs b0 hl
  obtain ⟨h5, h6⟩ := hgtI_bd hs x0 x2
  have hc : ropI z n x r = divR (r * (hgtI z n (lenTo z n) - hgtI z n x) * 981) 100000000 := rfl
  rw [hc]
  clear hc
  go_enter Try.func47, Try.ntmps47
  go_wp2_with
    (first
      | (go_at_call 55; (apply Calls.mono; focus ((with_reducible apply (l03Length_c _ _ _ z _ hz n1 hs)); (all_goals (first | (with_reducible assumption) | omega | ((repeat (first | (with_reducible assumption) | (with_reducible refine RowI.drewN ?_ _) | (with_reducible refine RowI.drew ?_) | (with_reducible refine RowI.alloc ?_ _) | (with_reducible refine RowI.below ?_ (by with_reducible assumption)))); done) | assumption | (simp; done) | (simp [*]; done))); done)); rintro e w' ⟨rfl, rfl⟩)
      | (go_at_call 81; (apply Calls.mono; focus ((with_reducible apply (l03Height_c _ _ _ z _ _ hz n1 hs)); (all_goals (first | (with_reducible assumption) | omega | ((repeat (first | (with_reducible assumption) | (with_reducible refine RowI.drewN ?_ _) | (with_reducible refine RowI.drew ?_) | (with_reducible refine RowI.alloc ?_ _) | (with_reducible refine RowI.below ?_ (by with_reducible assumption)))); done) | assumption | (simp; done) | (simp [*]; done))); done)); rintro e w' ⟨rfl, rfl⟩)
      | (go_at_call 73; go_call (l01Div_c); rintro e w' ⟨rfl, rfl⟩))
  go_ret
  exact ⟨rfl, rfl⟩
set_option maxHeartbeats 1000000 in
theorem l07Tension_c (A : Option Addr) (n c : Nat) (z : List Int) (x k r : Int) (b : Nat) (hz : z.length = n * 2) (n0 : 1 ≤ n) (n1 : n ≤ 12) (hs : secsB z n = true) (x0 : 0 ≤ x) (x1 : x ≤ lenTo z n) (hl : lenTo z n ≤ 3000000) (k0 : 0 ≤ k) (k1 : k ≤ 100000) (r0 : 0 ≤ r) (r1 : r ≤ 20000) (w : World) (hr : RowI w A z) (h0 : w.cell? ⟨b, 0, none⟩ = some (.slice A n c)) : Calls Try.prog 50 #[.pointer (some ⟨b, 0, none⟩), .int .i64 x, .int .i64 k, .int .i64 r] w fun e w' => e = .returned (.int .i64 (tenI z n x k r)) ∧ ∃ m, w' = w.drewN m := by
  have x2 : x ≤ 3000000 := by omega
  obtain ⟨a0, a1⟩ := carI_bd hs n0 (x := x) k0 k1
  obtain ⟨a2, a3⟩ := ropI_bd hs r0 r1 x0 x1 hl
  have hc : tenI z n x k r = carI z n x k + ropI z n x r := rfl
  rw [hc]
  clear hc
  go_enter Try.func50, Try.ntmps50
  go_wp2_with
    (first
      | (go_at_call 41; (apply Calls.mono; focus ((with_reducible apply (l07Car_c _ _ _ z _ _ _ hz n0 n1 hs x0 x2 k0 k1)); (all_goals (first | (with_reducible assumption) | omega | ((repeat (first | (with_reducible assumption) | (with_reducible refine RowI.drewN ?_ _) | (with_reducible refine RowI.drew ?_) | (with_reducible refine RowI.alloc ?_ _) | (with_reducible refine RowI.below ?_ (by with_reducible assumption)))); done) | assumption | (simp; done) | (simp [*]; done))); done)); rintro e w' ⟨rfl, nq, rfl⟩)
      | (go_at_call 47; (apply Calls.mono; focus ((with_reducible apply (l07Above_c _ _ _ z _ _ _ hz n1 hs x0 x1 hl r0 r1)); (all_goals (first | (with_reducible assumption) | omega | ((repeat (first | (with_reducible assumption) | (with_reducible refine RowI.drewN ?_ _) | (with_reducible refine RowI.drew ?_) | (with_reducible refine RowI.alloc ?_ _) | (with_reducible refine RowI.below ?_ (by with_reducible assumption)))); done) | assumption | (simp; done) | (simp [*]; done))); done)); rintro e w' ⟨rfl, rfl⟩))
  go_ret
  exact ⟨rfl, (by first | exact ⟨_, rfl⟩ | exact ⟨_, World.drewN_drewN _ _ _⟩ | exact ⟨0, rfl⟩)⟩
set_option maxHeartbeats 1000000 in
theorem l07Net_c (A : Option Addr) (n c : Nat) (z : List Int) (x k o r : Int) (b : Nat) (hz : z.length = n * 2) (n0 : 1 ≤ n) (n1 : n ≤ 12) (hs : secsB z n = true) (x0 : 0 ≤ x) (x1 : x ≤ lenTo z n) (hl : lenTo z n ≤ 3000000) (k0 : 0 ≤ k) (k1 : k ≤ 100000) (o0 : 0 ≤ o) (o1 : o ≤ 100000) (r0 : 0 ≤ r) (r1 : r ≤ 20000) (w : World) (hr : RowI w A z) (h0 : w.cell? ⟨b, 0, none⟩ = some (.slice A n c)) : Calls Try.prog 52 #[.pointer (some ⟨b, 0, none⟩), .int .i64 x, .int .i64 k, .int .i64 o, .int .i64 r] w fun e w' => e = .returned (.int .i64 (netI z n x k o r)) ∧ ∃ m, w' = w.drewN m := by
  have y0 : 0 ≤ lenTo z n - x := by omega
  have y1 : lenTo z n - x ≤ lenTo z n := by omega
  obtain ⟨a0, a1⟩ := tenI_bd hs n0 k0 k1 r0 r1 x0 x1 hl
  obtain ⟨a2, a3⟩ := tenI_bd hs n0 o0 o1 r0 r1 y0 y1 hl
  have hc : netI z n x k o r = tenI z n x k r - tenI z n (lenTo z n - x) o r := rfl
  rw [hc]
  clear hc
  go_enter Try.func52, Try.ntmps52
  go_wp2_with
    (first
      | (go_at_call 50; (apply Calls.mono; focus ((with_reducible apply (l07Tension_c _ _ _ z _ _ _ _ hz n0 n1 hs x0 x1 hl k0 k1 r0 r1)); (all_goals (first | (with_reducible assumption) | omega | ((repeat (first | (with_reducible assumption) | (with_reducible refine RowI.drewN ?_ _) | (with_reducible refine RowI.drew ?_) | (with_reducible refine RowI.alloc ?_ _) | (with_reducible refine RowI.below ?_ (by with_reducible assumption)))); done) | assumption | (simp; done) | (simp [*]; done))); done)); rintro e w' ⟨rfl, nq, rfl⟩)
      | (go_at_call 55; (apply Calls.mono; focus ((with_reducible apply (l03Length_c _ _ _ z _ hz n1 hs)); (all_goals (first | (with_reducible assumption) | omega | ((repeat (first | (with_reducible assumption) | (with_reducible refine RowI.drewN ?_ _) | (with_reducible refine RowI.drew ?_) | (with_reducible refine RowI.alloc ?_ _) | (with_reducible refine RowI.below ?_ (by with_reducible assumption)))); done) | assumption | (simp; done) | (simp [*]; done))); done)); rintro e w' ⟨rfl, rfl⟩)
      | (go_at_call 50; (apply Calls.mono; focus ((with_reducible apply (l07Tension_c _ _ _ z _ _ _ _ hz n0 n1 hs y0 y1 hl o0 o1 r0 r1)); (all_goals (first | (with_reducible assumption) | omega | ((repeat (first | (with_reducible assumption) | (with_reducible refine RowI.drewN ?_ _) | (with_reducible refine RowI.drew ?_) | (with_reducible refine RowI.alloc ?_ _) | (with_reducible refine RowI.below ?_ (by with_reducible assumption)))); done) | assumption | (simp; done) | (simp [*]; done))); done)); rintro e w' ⟨rfl, nq, rfl⟩))
  go_ret
  exact ⟨rfl, (by first | exact ⟨_, rfl⟩ | exact ⟨_, World.drewN_drewN _ _ _⟩ | exact ⟨0, rfl⟩)⟩
end Go.Proofs.Ytmkfkpfblnblgaa
