/- Rides in steps: closures, the greatest value, codes. -/
import Derived.Test.YtmkfkpfblnblgaaX5
import Derived.Test.YtmkfkpfblnblgaaX7
import Derived.Test.YtmkfkpfblnblgaaX8
import Derived.Test.YtmkfkpfblnblgaaSS
import Derived.Test.YtmkfkpfblnblgaaX9
namespace Go.Proofs.Ytmkfkpfblnblgaa
open Go.ChangeShapes Go.WideShapes Go.ChangeAt Go.RowKit
set_option linter.unusedVariables false
set_option linter.unusedSimpArgs false

theorem ridden_v {A : Option Addr} {n c : Nat} {z : List Int} {f u step : Int} {fine : Bool} {code : Int} (hc : codeR z n f u step fine = code) (hz : z.length = n * 2) (hn : n ≤ 1048576) (w : World) (hr : RowI w A z) : Calls Try.prog 56 #[.agg #[.slice A n c, .int .i64 f, .int .i64 u], .int .i64 step, .bool fine] w fun e w' => e = .returned (.int .i64 code) ∧ Below w.heap.size w w' := by
  subst hc
  exact ridden_c A n c z f u step fine hz hn w hr
set_option maxHeartbeats 1000000 in
theorem l07Run_c (A : Option Addr) (n c : Nat) (z : List Int) (f u k o r step : Int) (m : Bool) (hm : (inB k 0 100000 && inB o 0 100000 && inB r 0 20000) = m) (b : Nat) (hz : z.length = n * 2) (hn : n ≤ 1048576) (w : World) (hr : RowI w A z) (h0 : w.cell? ⟨b, 0, none⟩ = some (.slice A n c)) (h1 : w.cell? ⟨b, 1, none⟩ = some (.int .i64 f)) (h2 : w.cell? ⟨b, 2, none⟩ = some (.int .i64 u)) : Calls Try.prog 54 #[.pointer (some ⟨b, 0, none⟩), .int .i64 k, .int .i64 o, .int .i64 r, .int .i64 step] w fun e w' => e = .returned (.int .i64 (codeR z n f u step m)) ∧ ∃ m, w' = w.drewN m := by
  cases ht : trackB z n f u
  · have HF := Lib.hid (show codeR z n f u step m = 1 by simp [codeR, rideCode, ht])
    have hcode : codeT z n f u 0 m = 1 := by simp [codeT, ht]
    go_enter Try.func54, Try.ntmps54
    go_wp2_with
      (first
        | (go_at_call 40; (apply Calls.mono; focus ((with_reducible apply (l07Ask_v (A := A) (c := c) hm hcode _ hz hn)); (all_goals (first | (with_reducible assumption) | omega | ((repeat (first | (with_reducible assumption) | (with_reducible refine RowI.drewN ?_ _) | (with_reducible refine RowI.drew ?_) | (with_reducible refine RowI.alloc ?_ _) | (with_reducible refine RowI.below ?_ (by with_reducible assumption)))); done) | assumption | (simp; done) | (simp [*]; done))); done)); rintro e w' ⟨rfl, nq, rfl⟩))
    go_ret
    exact ⟨by rw [HF.out]; rfl, (by first | exact ⟨_, rfl⟩ | exact ⟨_, World.drewN_drewN _ _ _⟩ | exact ⟨0, rfl⟩)⟩
  obtain ⟨⟨n0, n1⟩, hs, ⟨L0, L1⟩, _⟩ := trackB_true ht
  have hin : inB 0 0 (lenTo z n) = true := inB_of (by omega) (by omega)
  cases m
  · have HF := Lib.hid (show codeR z n f u step false = 2 by simp [codeR, rideCode, ht])
    have hcode : codeT z n f u 0 false = 2 := by simp [codeT, ht, hin]
    go_enter Try.func54, Try.ntmps54
    go_wp2_with
      (first
        | (go_at_call 40; (apply Calls.mono; focus ((with_reducible apply (l07Ask_v (A := A) (c := c) hm hcode _ hz hn)); (all_goals (first | (with_reducible assumption) | omega | ((repeat (first | (with_reducible assumption) | (with_reducible refine RowI.drewN ?_ _) | (with_reducible refine RowI.drew ?_) | (with_reducible refine RowI.alloc ?_ _) | (with_reducible refine RowI.below ?_ (by with_reducible assumption)))); done) | assumption | (simp; done) | (simp [*]; done))); done)); rintro e w' ⟨rfl, nq, rfl⟩))
    go_ret
    exact ⟨by rw [HF.out]; rfl, (by first | exact ⟨_, rfl⟩ | exact ⟨_, World.drewN_drewN _ _ _⟩ | exact ⟨0, rfl⟩)⟩
  have hcode : codeT z n f u 0 true = 0 := by simp [codeT, ht, hin]
  cases hst : inB step 1 3000000
  · have HF := Lib.hid (show codeR z n f u step true = 2 by simp [codeR, rideCode, ht, hst])
    go_enter Try.func54, Try.ntmps54
    go_wp2_with
      (first
        | (go_at_call 40; (apply Calls.mono; focus ((with_reducible apply (l07Ask_v (A := A) (c := c) hm hcode _ hz hn)); (all_goals (first | (with_reducible assumption) | omega | ((repeat (first | (with_reducible assumption) | (with_reducible refine RowI.drewN ?_ _) | (with_reducible refine RowI.drew ?_) | (with_reducible refine RowI.alloc ?_ _) | (with_reducible refine RowI.below ?_ (by with_reducible assumption)))); done) | assumption | (simp; done) | (simp [*]; done))); done)); rintro e w' ⟨rfl, nq, rfl⟩)
        | (go_at_call 83; (apply Calls.mono; focus ((with_reducible apply (l00In_v hst)); (all_goals (first | (with_reducible assumption) | omega | ((repeat (first | (with_reducible assumption) | (with_reducible refine RowI.drewN ?_ _) | (with_reducible refine RowI.drew ?_) | (with_reducible refine RowI.alloc ?_ _) | (with_reducible refine RowI.below ?_ (by with_reducible assumption)))); done) | assumption | (simp; done) | (simp [*]; done))); done)); rintro e w' ⟨rfl, rfl⟩))
    go_ret
    exact ⟨by rw [HF.out]; rfl, (by first | exact ⟨_, rfl⟩ | exact ⟨_, World.drewN_drewN _ _ _⟩ | exact ⟨0, rfl⟩)⟩
  obtain ⟨s0, s1⟩ := inB_true hst
  have q0 : 0 ≤ lenTo z n / step := Int.ediv_nonneg (by omega) (by omega)
  have q1 : lenTo z n / step ≤ lenTo z n := Int.ediv_le_self _ (by omega)
  by_cases hq : 20000 < lenTo z n / step
  all_goals
    have HF := Lib.hid (show codeR z n f u step true = if 20000 < lenTo z n / step then 5 else 0 by simp [codeR, rideCode, ht, hst])
    go_enter Try.func54, Try.ntmps54
    go_wp2_with
      (first
        | (go_at_call 40; (apply Calls.mono; focus ((with_reducible apply (l07Ask_v (A := A) (c := c) hm hcode _ hz hn)); (all_goals (first | (with_reducible assumption) | omega | ((repeat (first | (with_reducible assumption) | (with_reducible refine RowI.drewN ?_ _) | (with_reducible refine RowI.drew ?_) | (with_reducible refine RowI.alloc ?_ _) | (with_reducible refine RowI.below ?_ (by with_reducible assumption)))); done) | assumption | (simp; done) | (simp [*]; done))); done)); rintro e w' ⟨rfl, nq, rfl⟩)
        | (go_at_call 83; (apply Calls.mono; focus ((with_reducible apply (l00In_v hst)); (all_goals (first | (with_reducible assumption) | omega | ((repeat (first | (with_reducible assumption) | (with_reducible refine RowI.drewN ?_ _) | (with_reducible refine RowI.drew ?_) | (with_reducible refine RowI.alloc ?_ _) | (with_reducible refine RowI.below ?_ (by with_reducible assumption)))); done) | assumption | (simp; done) | (simp [*]; done))); done)); rintro e w' ⟨rfl, rfl⟩)
        | (go_at_call 55; (apply Calls.mono; focus ((with_reducible apply (l03Length_c A n c z _ hz n1 hs)); (all_goals (first | (with_reducible assumption) | omega | ((repeat (first | (with_reducible assumption) | (with_reducible refine RowI.drewN ?_ _) | (with_reducible refine RowI.drew ?_) | (with_reducible refine RowI.alloc ?_ _) | (with_reducible refine RowI.below ?_ (by with_reducible assumption)))); done) | assumption | (simp; done) | (simp [*]; done))); done)); rintro e w' ⟨rfl, rfl⟩))
    go_ret
    exact ⟨by rw [HF.out]; first | rw [if_pos hq] <;> rfl | rw [if_neg hq] <;> rfl | simp [hq], (by first | exact ⟨_, rfl⟩ | exact ⟨_, World.drewN_drewN _ _ _⟩ | exact ⟨0, rfl⟩)⟩
theorem l07Run_v {A : Option Addr} {n c : Nat} {z : List Int} {f u k o r step : Int} {m : Bool} {code : Int} (hm : (inB k 0 100000 && inB o 0 100000 && inB r 0 20000) = m) (hc : codeR z n f u step m = code) (b : Nat) (hz : z.length = n * 2) (hn : n ≤ 1048576) (w : World) (hr : RowI w A z) (h0 : w.cell? ⟨b, 0, none⟩ = some (.slice A n c)) (h1 : w.cell? ⟨b, 1, none⟩ = some (.int .i64 f)) (h2 : w.cell? ⟨b, 2, none⟩ = some (.int .i64 u)) : Calls Try.prog 54 #[.pointer (some ⟨b, 0, none⟩), .int .i64 k, .int .i64 o, .int .i64 r, .int .i64 step] w fun e w' => e = .returned (.int .i64 code) ∧ ∃ m, w' = w.drewN m := by
  subst hc
  exact l07Run_c A n c z f u k o r step m hm b hz hn w hr h0 h1 h2
set_option maxHeartbeats 1000000 in
theorem GT1_c (A : Option Addr) (n c : Nat) (z : List Int) (f u x k r : Int) (bt b1 b2 : Nat) (hz : z.length = n * 2) (n0 : 1 ≤ n) (n1 : n ≤ 12) (hs : secsB z n = true) (hl : lenTo z n ≤ 3000000) (x0 : 0 ≤ x) (x1 : x ≤ lenTo z n) (k0 : 0 ≤ k) (k1 : k ≤ 100000) (r0 : 0 ≤ r) (r1 : r ≤ 20000) (w : World) (hr : RowI w A z) (ht : TrackBox bt A n c f u w) (hb1 : w.cell? ⟨b1, 0, none⟩ = some (.int .i64 k)) (hb2 : w.cell? ⟨b2, 0, none⟩ = some (.int .i64 r)) : Calls Try.prog 58 #[.int .i64 x, .pointer (some ⟨bt, 0, none⟩), .pointer (some ⟨b1, 0, none⟩), .pointer (some ⟨b2, 0, none⟩)] w fun e w' => e = .returned (.int .i64 (tenI z n x k r)) ∧ Below w.heap.size w w' := by
  obtain ⟨t0, t1, t2, t3⟩ := ht
  have x2 : x ≤ 3000000 := by omega
  go_enter Try.func58, Try.ntmps58
  go_wp2_with
    (first
      | (go_at_call 51; (apply Calls.mono; focus ((with_reducible apply (tension_c _ _ _ z _ _ _ _ _ hz n0 n1 hs x0 x1 hl k0 k1 r0 r1)); (all_goals (first | (with_reducible assumption) | omega | ((repeat (first | (with_reducible assumption) | (with_reducible refine RowI.drewN ?_ _) | (with_reducible refine RowI.drew ?_) | (with_reducible refine RowI.alloc ?_ _) | (with_reducible refine RowI.below ?_ (by with_reducible assumption)))); done) | assumption | (simp; done) | (simp [*]; done))); done)); rintro e w' ⟨rfl, hb⟩; obtain ⟨qc, qf, qz, qs⟩ := bfacts hb; (try simp only [World.size_alloc, World.size_setCell, World.size_drew, World.heap_drewN] at qs))
      | (go_at_call 65; go_call (abs_c _ (by omega) (by omega) _); rintro e w' ⟨rfl, rfl⟩))
  go_ret
  refine ⟨rfl, ?_⟩
  repeat' (first
    | (with_reducible exact Below.refl _ _)
    | (with_reducible assumption)
    | (with_reducible refine Below.alloc ?_ ?_ _)
    | (with_reducible refine Below.drew ?_)
    | (with_reducible refine bdrewN ?_ _)
    | (with_reducible refine Below.setCell ?_ ?_ _)
    | (with_reducible refine bthen (by assumption) ?_ ?_)
    | go_size)
set_option maxHeartbeats 1000000 in
theorem GN1_c (A : Option Addr) (n c : Nat) (z : List Int) (f u x k o r : Int) (bt b1 b2 b3 : Nat) (hz : z.length = n * 2) (n0 : 1 ≤ n) (n1 : n ≤ 12) (hs : secsB z n = true) (hl : lenTo z n ≤ 3000000) (x0 : 0 ≤ x) (x1 : x ≤ lenTo z n) (k0 : 0 ≤ k) (k1 : k ≤ 100000) (o0 : 0 ≤ o) (o1 : o ≤ 100000) (r0 : 0 ≤ r) (r1 : r ≤ 20000) (w : World) (hr : RowI w A z) (ht : TrackBox bt A n c f u w) (hb1 : w.cell? ⟨b1, 0, none⟩ = some (.int .i64 k)) (hb2 : w.cell? ⟨b2, 0, none⟩ = some (.int .i64 o)) (hb3 : w.cell? ⟨b3, 0, none⟩ = some (.int .i64 r)) : Calls Try.prog 64 #[.int .i64 x, .pointer (some ⟨bt, 0, none⟩), .pointer (some ⟨b1, 0, none⟩), .pointer (some ⟨b2, 0, none⟩), .pointer (some ⟨b3, 0, none⟩)] w fun e w' => e = .returned (.int .i64 (absI (netI z n x k o r))) ∧ Below w.heap.size w w' := by
  obtain ⟨t0, t1, t2, t3⟩ := ht
  have hnb := netI_bd hs n0 k0 k1 o0 o1 r0 r1 x0 x1 hl
  go_enter Try.func64, Try.ntmps64
  go_wp2_with
    (first
      | (go_at_call 53; (apply Calls.mono; focus ((with_reducible apply (netPull_c _ _ _ z _ _ _ _ _ _ hz n0 n1 hs x0 x1 hl k0 k1 o0 o1 r0 r1)); (all_goals (first | (with_reducible assumption) | omega | ((repeat (first | (with_reducible assumption) | (with_reducible refine RowI.drewN ?_ _) | (with_reducible refine RowI.drew ?_) | (with_reducible refine RowI.alloc ?_ _) | (with_reducible refine RowI.below ?_ (by with_reducible assumption)))); done) | assumption | (simp; done) | (simp [*]; done))); done)); rintro e w' ⟨rfl, hb⟩; obtain ⟨qc, qf, qz, qs⟩ := bfacts hb; (try simp only [World.size_alloc, World.size_setCell, World.size_drew, World.heap_drewN] at qs))
      | (go_at_call 65; go_call (abs_c _ (by omega) (by omega) _); rintro e w' ⟨rfl, rfl⟩))
  go_ret
  refine ⟨rfl, ?_⟩
  repeat' (first
    | (with_reducible exact Below.refl _ _)
    | (with_reducible assumption)
    | (with_reducible refine Below.alloc ?_ ?_ _)
    | (with_reducible refine Below.drew ?_)
    | (with_reducible refine bdrewN ?_ _)
    | (with_reducible refine Below.setCell ?_ ?_ _)
    | (with_reducible refine bthen (by assumption) ?_ ?_)
    | go_size)
set_option maxHeartbeats 1000000 in
theorem BK1_c (A : Option Addr) (n c : Nat) (z : List Int) (f u x k o r : Int) (bt b1 b2 b3 : Nat) (hz : z.length = n * 2) (n0 : 1 ≤ n) (n1 : n ≤ 12) (hs : secsB z n = true) (hl : lenTo z n ≤ 3000000) (x0 : 0 ≤ x) (x1 : x ≤ lenTo z n) (k0 : 0 ≤ k) (k1 : k ≤ 100000) (o0 : 0 ≤ o) (o1 : o ≤ 100000) (r0 : 0 ≤ r) (r1 : r ≤ 20000) (w : World) (hr : RowI w A z) (ht : TrackBox bt A n c f u w) (hb1 : w.cell? ⟨b1, 0, none⟩ = some (.int .i64 x)) (hb2 : w.cell? ⟨b2, 0, none⟩ = some (.int .i64 o)) (hb3 : w.cell? ⟨b3, 0, none⟩ = some (.int .i64 r)) : Calls Try.prog 63 #[.int .i64 k, .pointer (some ⟨bt, 0, none⟩), .pointer (some ⟨b1, 0, none⟩), .pointer (some ⟨b2, 0, none⟩), .pointer (some ⟨b3, 0, none⟩)] w fun e w' => e = .returned (.bool (balB z n x o r k)) ∧ Below w.heap.size w w' := by
  obtain ⟨t0, t1, t2, t3⟩ := ht
  have hnb := netI_bd hs n0 k0 k1 o0 o1 r0 r1 x0 x1 hl
  go_enter Try.func63, Try.ntmps63
  go_wp2_with
    (first
      | (go_at_call 53; (apply Calls.mono; focus ((with_reducible apply (netPull_c _ _ _ z _ _ _ _ _ _ hz n0 n1 hs x0 x1 hl k0 k1 o0 o1 r0 r1)); (all_goals (first | (with_reducible assumption) | omega | ((repeat (first | (with_reducible assumption) | (with_reducible refine RowI.drewN ?_ _) | (with_reducible refine RowI.drew ?_) | (with_reducible refine RowI.alloc ?_ _) | (with_reducible refine RowI.below ?_ (by with_reducible assumption)))); done) | assumption | (simp; done) | (simp [*]; done))); done)); rintro e w' ⟨rfl, hb⟩; obtain ⟨qc, qf, qz, qs⟩ := bfacts hb; (try simp only [World.size_alloc, World.size_setCell, World.size_drew, World.heap_drewN] at qs))
      | (go_at_call 65; go_call (abs_c _ (by omega) (by omega) _); rintro e w' ⟨rfl, rfl⟩))
  go_ret
  refine ⟨rfl, ?_⟩
  repeat' (first
    | (with_reducible exact Below.refl _ _)
    | (with_reducible assumption)
    | (with_reducible refine Below.alloc ?_ ?_ _)
    | (with_reducible refine Below.drew ?_)
    | (with_reducible refine bdrewN ?_ _)
    | (with_reducible refine Below.setCell ?_ ?_ _)
    | (with_reducible refine bthen (by assumption) ?_ ?_)
    | go_size)
set_option maxHeartbeats 2000000 in
theorem greatestOnT_c (A : Option Addr) (n c : Nat) (z : List Int) (f u step k r : Int) (bt b1 b2 : Nat) (hz : z.length = n * 2) (n0 : 1 ≤ n) (n1 : n ≤ 12) (hs : secsB z n = true) (hl : lenTo z n ≤ 3000000) (L0 : 1 ≤ lenTo z n) (s0 : 1 ≤ step) (s1 : step ≤ 3000000) (k0 : 0 ≤ k) (k1 : k ≤ 100000) (r0 : 0 ≤ r) (r1 : r ≤ 20000) (w : World) (hr : RowI w A z) (ht : TrackBox bt A n c f u w) (lb1 : b1 < w.heap.size) (lb2 : b2 < w.heap.size) (hb1 : w.cell? ⟨b1, 0, none⟩ = some (.int .i64 k)) (hb2 : w.cell? ⟨b2, 0, none⟩ = some (.int .i64 r)) : Calls Try.prog 57 #[.agg #[.slice A n c, .int .i64 f, .int .i64 u], .int .i64 step, .func (.func 58) #[] #[.pointer (some ⟨bt, 0, none⟩), .pointer (some ⟨b1, 0, none⟩), .pointer (some ⟨b2, 0, none⟩)]] w fun e w' => e = .returned (.tuple #[.int .i64 (bestI (fun y => tenI z n y k r) (lenTo z n) step).1, .int .i64 (bestI (fun y => tenI z n y k r) (lenTo z n) step).2]) ∧ Below w.heap.size w w' := by
  have HV := Lib.hid (show ∀ x, 0 ≤ x → x ≤ lenTo z n → 0 ≤ tenI z n x k r ∧ tenI z n x k r ≤ 1500000 from fun x x0 x1 => by
    exact tenI_bd hs n0 k0 k1 r0 r1 x0 x1 hl)
  have HCL := Lib.hid (fun x x0 x1 w' hr ht hb1 hb2 => GT1_c A n c z f u x k r bt b1 b2 hz n0 n1 hs hl x0 x1 k0 k1 r0 r1 w' hr ht hb1 hb2)
  have HLE := Lib.hid (fun w' hr => length_c A n c z f u hz n1 hs w' hr)
  have HI := Lib.hid (show bestF (fun y => tenI z n y k r) (lenTo z n) step ((lenTo z n).toNat + 1) 0 (0, tenI z n 0 k r) = bestI (fun y => tenI z n y k r) (lenTo z n) step from rfl)
  have hr1 := hr.alloc (.cells #[.slice A n c, .int .i64 f, .int .i64 u] 30)
  have ht1 := ht.alloc (.cells #[.slice A n c, .int .i64 f, .int .i64 u] 30)
  have hn1 := TrackBox.new w 30 A n c f u
  have hB1 : Below w.heap.size w (w.alloc (.cells #[.slice A n c, .int .i64 f, .int .i64 u] 30)) := (Below.refl _ _).alloc (Nat.le_refl _) _
  go_enter Try.func57, Try.ntmps57
  go_wp2_with (go_at_call 58; (refine (HCL.out 0 (by omega) (by omega) _ hr1 ht1 ((hB1.cell (p := ⟨b1, 0, none⟩) lb1).trans hb1) ((hB1.cell (p := ⟨b2, 0, none⟩) lb2).trans hb2)).mono ?_); rintro e w1 ⟨rfl, hbb⟩)
  have hB2 : Below w.heap.size w w1 := hB1.trans (hbb.mono hB1.size)
  have hr2 := hr1.below hbb
  have ht2 := ht1.below hbb
  have hn2 := hn1.below hbb
  clear hr1 ht1 hn1 hB1 hbb
  go_loopw [8, 9, 10] (fun b m x wr => ∃ (q : Nat) (y p v : Int), 0 ≤ y ∧ y ≤ 6000000 ∧ lenTo z n + 1 - y ≤ q ∧ 0 ≤ v ∧ v ≤ 1500000 ∧ Hid (bestF (fun y => tenI z n y k r) (lenTo z n) step q y (p, v) = bestI (fun y => tenI z n y k r) (lenTo z n) step) ∧ b = .int .i64 p ∧ m = .int .i64 v ∧ x = .int .i64 y ∧ Below w.heap.size w wr ∧ Hid (TrackBox w.heap.size A n c f u wr)) (fun _ _ x _ => (lenTo z n + 1 - intOf x).toNat)
  case atStart => exact ⟨(lenTo z n).toNat + 1, 0, 0, _, by omega, by omega, by omega, (HV.out 0 (by omega) (by omega)).1, (HV.out 0 (by omega) (by omega)).2, HI, rfl, rfl, rfl, hB2, Lib.hid hn2⟩
  case round =>
    obtain ⟨q, y, p, v, y0, y1, hq, v0, v1, HK, rfl, rfl, rfl, hBr, HT⟩ := hrel
    have a0 := HT.out.c0
    have a1 := HT.out.c1
    have a2 := HT.out.c2
    have a3 := HT.out.lt
    have hrr := hr.below hBr
    have htr := ht.below hBr
    have hsr := hBr.size
    have e1 := (hBr.cell (p := ⟨b1, 0, none⟩) lb1).trans hb1
    have e2 := (hBr.cell (p := ⟨b2, 0, none⟩) lb2).trans hb2
    by_cases hlt : y ≤ lenTo z n
    · obtain ⟨q, rfl⟩ : ∃ q', q = q' + 1 := ⟨q - 1, by omega⟩
      obtain ⟨u0, u1⟩ := HV.out y y0 hlt
      by_cases hg : v < tenI z n y k r
      · have HN := Lib.hid (bestF_hit (val := (fun y => tenI z n y k r)) (len := lenTo z n) (step := step) (q := q) (x := y) (s := (p, v)) hlt hg)
        go_wp2_with
          (first
            | (go_at_call 59; (refine (HLE.out _ hrr).mono ?_); rintro e wL ⟨rfl, hbL⟩; have hrL := hrr.below hbL; have htL := htr.below hbL; have hTL := HT.out.below hbL; have hsL := hbL.size; have b0 := hTL.c0; have b1' := hTL.c1; have b2' := hTL.c2; have HTL := Lib.hid hTL; clear hTL)
            | (go_at_call 58; (refine (HCL.out y y0 hlt _ hrL htL ((hbL.cell (p := ⟨b1, 0, none⟩) (Nat.lt_of_lt_of_le lb1 hsr)).trans e1) ((hbL.cell (p := ⟨b2, 0, none⟩) (Nat.lt_of_lt_of_le lb2 hsr)).trans e2)).mono ?_); rintro e wC ⟨rfl, hbC⟩; have hBC : Below w.heap.size w wC := hBr.trans ((hbL.trans (hbC.mono hsL)).mono hsr); have HTC := Lib.hid (HTL.out.below hbC)))
        go_roundw
        case rel => exact ⟨q, y + step, y, tenI z n y k r, by omega, by omega, by omega, u0, u1, Lib.hid (HN.out.symm.trans HK.out), rfl, rfl, rfl, hBC, HTC⟩
        case measure => simp [intOf]; omega
      · have HN := Lib.hid (bestF_on (val := (fun y => tenI z n y k r)) (len := lenTo z n) (step := step) (q := q) (x := y) (s := (p, v)) hlt hg)
        go_wp2_with
          (first
            | (go_at_call 59; (refine (HLE.out _ hrr).mono ?_); rintro e wL ⟨rfl, hbL⟩; have hrL := hrr.below hbL; have htL := htr.below hbL; have hTL := HT.out.below hbL; have hsL := hbL.size; have b0 := hTL.c0; have b1' := hTL.c1; have b2' := hTL.c2; have HTL := Lib.hid hTL; clear hTL)
            | (go_at_call 58; (refine (HCL.out y y0 hlt _ hrL htL ((hbL.cell (p := ⟨b1, 0, none⟩) (Nat.lt_of_lt_of_le lb1 hsr)).trans e1) ((hbL.cell (p := ⟨b2, 0, none⟩) (Nat.lt_of_lt_of_le lb2 hsr)).trans e2)).mono ?_); rintro e wC ⟨rfl, hbC⟩; have hBC : Below w.heap.size w wC := hBr.trans ((hbL.trans (hbC.mono hsL)).mono hsr); have HTC := Lib.hid (HTL.out.below hbC)))
        go_roundw
        case rel => exact ⟨q, y + step, p, v, by omega, by omega, by omega, v0, v1, Lib.hid (HN.out.symm.trans HK.out), rfl, rfl, rfl, hBC, HTC⟩
        case measure => simp [intOf]; omega
    · have HE := Lib.hid (bestF_end (val := (fun y => tenI z n y k r)) (step := step) (q := q) (s := (p, v)) hlt)
      go_wp2_with (go_at_call 59; (refine (HLE.out _ hrr).mono ?_); rintro e wL ⟨rfl, hbL⟩)
      go_returns
      exact ⟨by (rw [← HK.out, HE.out]) <;> rfl, hBr.trans (hbL.mono hsr)⟩
set_option maxHeartbeats 2000000 in
theorem greatestOnN_c (A : Option Addr) (n c : Nat) (z : List Int) (f u step k o r : Int) (bt b1 b2 b3 : Nat) (hz : z.length = n * 2) (n0 : 1 ≤ n) (n1 : n ≤ 12) (hs : secsB z n = true) (hl : lenTo z n ≤ 3000000) (L0 : 1 ≤ lenTo z n) (s0 : 1 ≤ step) (s1 : step ≤ 3000000) (k0 : 0 ≤ k) (k1 : k ≤ 100000) (o0 : 0 ≤ o) (o1 : o ≤ 100000) (r0 : 0 ≤ r) (r1 : r ≤ 20000) (w : World) (hr : RowI w A z) (ht : TrackBox bt A n c f u w) (lb1 : b1 < w.heap.size) (lb2 : b2 < w.heap.size) (lb3 : b3 < w.heap.size) (hb1 : w.cell? ⟨b1, 0, none⟩ = some (.int .i64 k)) (hb2 : w.cell? ⟨b2, 0, none⟩ = some (.int .i64 o)) (hb3 : w.cell? ⟨b3, 0, none⟩ = some (.int .i64 r)) : Calls Try.prog 57 #[.agg #[.slice A n c, .int .i64 f, .int .i64 u], .int .i64 step, .func (.func 64) #[] #[.pointer (some ⟨bt, 0, none⟩), .pointer (some ⟨b1, 0, none⟩), .pointer (some ⟨b2, 0, none⟩), .pointer (some ⟨b3, 0, none⟩)]] w fun e w' => e = .returned (.tuple #[.int .i64 (bestI (fun y => absI (netI z n y k o r)) (lenTo z n) step).1, .int .i64 (bestI (fun y => absI (netI z n y k o r)) (lenTo z n) step).2]) ∧ Below w.heap.size w w' := by
  have HV := Lib.hid (show ∀ x, 0 ≤ x → x ≤ lenTo z n → 0 ≤ absI (netI z n x k o r) ∧ absI (netI z n x k o r) ≤ 1500000 from fun x x0 x1 => by
    have h := netI_bd hs n0 k0 k1 o0 o1 r0 r1 x0 x1 hl; unfold absI; split <;> omega)
  have HCL := Lib.hid (fun x x0 x1 w' hr ht hb1 hb2 hb3 => GN1_c A n c z f u x k o r bt b1 b2 b3 hz n0 n1 hs hl x0 x1 k0 k1 o0 o1 r0 r1 w' hr ht hb1 hb2 hb3)
  have HLE := Lib.hid (fun w' hr => length_c A n c z f u hz n1 hs w' hr)
  have HI := Lib.hid (show bestF (fun y => absI (netI z n y k o r)) (lenTo z n) step ((lenTo z n).toNat + 1) 0 (0, absI (netI z n 0 k o r)) = bestI (fun y => absI (netI z n y k o r)) (lenTo z n) step from rfl)
  have hr1 := hr.alloc (.cells #[.slice A n c, .int .i64 f, .int .i64 u] 30)
  have ht1 := ht.alloc (.cells #[.slice A n c, .int .i64 f, .int .i64 u] 30)
  have hn1 := TrackBox.new w 30 A n c f u
  have hB1 : Below w.heap.size w (w.alloc (.cells #[.slice A n c, .int .i64 f, .int .i64 u] 30)) := (Below.refl _ _).alloc (Nat.le_refl _) _
  go_enter Try.func57, Try.ntmps57
  go_wp2_with (go_at_call 64; (refine (HCL.out 0 (by omega) (by omega) _ hr1 ht1 ((hB1.cell (p := ⟨b1, 0, none⟩) lb1).trans hb1) ((hB1.cell (p := ⟨b2, 0, none⟩) lb2).trans hb2) ((hB1.cell (p := ⟨b3, 0, none⟩) lb3).trans hb3)).mono ?_); rintro e w1 ⟨rfl, hbb⟩)
  have hB2 : Below w.heap.size w w1 := hB1.trans (hbb.mono hB1.size)
  have hr2 := hr1.below hbb
  have ht2 := ht1.below hbb
  have hn2 := hn1.below hbb
  clear hr1 ht1 hn1 hB1 hbb
  go_loopw [8, 9, 10] (fun b m x wr => ∃ (q : Nat) (y p v : Int), 0 ≤ y ∧ y ≤ 6000000 ∧ lenTo z n + 1 - y ≤ q ∧ 0 ≤ v ∧ v ≤ 1500000 ∧ Hid (bestF (fun y => absI (netI z n y k o r)) (lenTo z n) step q y (p, v) = bestI (fun y => absI (netI z n y k o r)) (lenTo z n) step) ∧ b = .int .i64 p ∧ m = .int .i64 v ∧ x = .int .i64 y ∧ Below w.heap.size w wr ∧ Hid (TrackBox w.heap.size A n c f u wr)) (fun _ _ x _ => (lenTo z n + 1 - intOf x).toNat)
  case atStart => exact ⟨(lenTo z n).toNat + 1, 0, 0, _, by omega, by omega, by omega, (HV.out 0 (by omega) (by omega)).1, (HV.out 0 (by omega) (by omega)).2, HI, rfl, rfl, rfl, hB2, Lib.hid hn2⟩
  case round =>
    obtain ⟨q, y, p, v, y0, y1, hq, v0, v1, HK, rfl, rfl, rfl, hBr, HT⟩ := hrel
    have a0 := HT.out.c0
    have a1 := HT.out.c1
    have a2 := HT.out.c2
    have a3 := HT.out.lt
    have hrr := hr.below hBr
    have htr := ht.below hBr
    have hsr := hBr.size
    have e1 := (hBr.cell (p := ⟨b1, 0, none⟩) lb1).trans hb1
    have e2 := (hBr.cell (p := ⟨b2, 0, none⟩) lb2).trans hb2
    have e3 := (hBr.cell (p := ⟨b3, 0, none⟩) lb3).trans hb3
    by_cases hlt : y ≤ lenTo z n
    · obtain ⟨q, rfl⟩ : ∃ q', q = q' + 1 := ⟨q - 1, by omega⟩
      obtain ⟨u0, u1⟩ := HV.out y y0 hlt
      by_cases hg : v < absI (netI z n y k o r)
      · have HN := Lib.hid (bestF_hit (val := (fun y => absI (netI z n y k o r))) (len := lenTo z n) (step := step) (q := q) (x := y) (s := (p, v)) hlt hg)
        go_wp2_with
          (first
            | (go_at_call 59; (refine (HLE.out _ hrr).mono ?_); rintro e wL ⟨rfl, hbL⟩; have hrL := hrr.below hbL; have htL := htr.below hbL; have hTL := HT.out.below hbL; have hsL := hbL.size; have b0 := hTL.c0; have b1' := hTL.c1; have b2' := hTL.c2; have HTL := Lib.hid hTL; clear hTL)
            | (go_at_call 64; (refine (HCL.out y y0 hlt _ hrL htL ((hbL.cell (p := ⟨b1, 0, none⟩) (Nat.lt_of_lt_of_le lb1 hsr)).trans e1) ((hbL.cell (p := ⟨b2, 0, none⟩) (Nat.lt_of_lt_of_le lb2 hsr)).trans e2) ((hbL.cell (p := ⟨b3, 0, none⟩) (Nat.lt_of_lt_of_le lb3 hsr)).trans e3)).mono ?_); rintro e wC ⟨rfl, hbC⟩; have hBC : Below w.heap.size w wC := hBr.trans ((hbL.trans (hbC.mono hsL)).mono hsr); have HTC := Lib.hid (HTL.out.below hbC)))
        go_roundw
        case rel => exact ⟨q, y + step, y, absI (netI z n y k o r), by omega, by omega, by omega, u0, u1, Lib.hid (HN.out.symm.trans HK.out), rfl, rfl, rfl, hBC, HTC⟩
        case measure => simp [intOf]; omega
      · have HN := Lib.hid (bestF_on (val := (fun y => absI (netI z n y k o r))) (len := lenTo z n) (step := step) (q := q) (x := y) (s := (p, v)) hlt hg)
        go_wp2_with
          (first
            | (go_at_call 59; (refine (HLE.out _ hrr).mono ?_); rintro e wL ⟨rfl, hbL⟩; have hrL := hrr.below hbL; have htL := htr.below hbL; have hTL := HT.out.below hbL; have hsL := hbL.size; have b0 := hTL.c0; have b1' := hTL.c1; have b2' := hTL.c2; have HTL := Lib.hid hTL; clear hTL)
            | (go_at_call 64; (refine (HCL.out y y0 hlt _ hrL htL ((hbL.cell (p := ⟨b1, 0, none⟩) (Nat.lt_of_lt_of_le lb1 hsr)).trans e1) ((hbL.cell (p := ⟨b2, 0, none⟩) (Nat.lt_of_lt_of_le lb2 hsr)).trans e2) ((hbL.cell (p := ⟨b3, 0, none⟩) (Nat.lt_of_lt_of_le lb3 hsr)).trans e3)).mono ?_); rintro e wC ⟨rfl, hbC⟩; have hBC : Below w.heap.size w wC := hBr.trans ((hbL.trans (hbC.mono hsL)).mono hsr); have HTC := Lib.hid (HTL.out.below hbC)))
        go_roundw
        case rel => exact ⟨q, y + step, p, v, by omega, by omega, by omega, v0, v1, Lib.hid (HN.out.symm.trans HK.out), rfl, rfl, rfl, hBC, HTC⟩
        case measure => simp [intOf]; omega
    · have HE := Lib.hid (bestF_end (val := (fun y => absI (netI z n y k o r))) (step := step) (q := q) (s := (p, v)) hlt)
      go_wp2_with (go_at_call 59; (refine (HLE.out _ hrr).mono ?_); rintro e wL ⟨rfl, hbL⟩)
      go_returns
      exact ⟨by (rw [← HK.out, HE.out]) <;> rfl, hBr.trans (hbL.mono hsr)⟩
end Go.Proofs.Ytmkfkpfblnblgaa
