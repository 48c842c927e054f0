/- KindsOf. -/
import Derived.Test.YtelakibjcihfaaaZ
import Derived.Test.YtelakibjcihfaaaOW
namespace Go.Proofs.Ytelakibjcihfaaa
open Go.ChangeShapes Go.WideShapes Go.ChangeAt Go.RowKit
set_option linter.unusedVariables false
set_option linter.unusedSimpArgs false

def kindsTo (r d x : Int) : Nat → List Int
  | 0 => []
  | k + 1 => if kindB ((k : Int) + 1) r d x then kindsTo r d x k ++ [(k : Int) + 1] else kindsTo r d x k
theorem kindsTo_in {r d x : Int} {k : Nat} (h : kindB ((k : Int) + 1) r d x = true) : kindsTo r d x (k + 1) = kindsTo r d x k ++ [(k : Int) + 1] := by rw [kindsTo, if_pos h]
theorem kindsTo_out {r d x : Int} {k : Nat} (h : kindB ((k : Int) + 1) r d x = false) : kindsTo r d x (k + 1) = kindsTo r d x k := by rw [kindsTo, if_neg (by simp [h])]
theorem kindsTo_len (r d x : Int) : ∀ k, (kindsTo r d x k).length ≤ k
  | 0 => by simp [kindsTo]
  | k + 1 => by
    have := kindsTo_len r d x k
    simp only [kindsTo]
    split <;> simp <;> omega
def fKinds (r d x : Int) : List Int × Int := if hourOk r d x then (kindsTo r d x 4, 0) else ([], 1)
set_option maxHeartbeats 2000000 in
theorem specKindsOf_c (r d x : Int) (w : World) : Calls Try.prog 26 #[.agg #[.int .i64 r, .int .i64 d, .int .i64 x]] w fun e w' => ∃ v, e = .returned (.tuple #[v, .int .i64 (fKinds r d x).2]) ∧ OwnI 2 w' w.heap.size v (fKinds r d x).1 ∧ Below w.heap.size w w' := by
  cases hok : hourOk r d x
  · have HF := Lib.hid (show fKinds r d x = ([], 1) by simp [fKinds, hok])
    go_enter Try.func26, Try.ntmps26
    go_wp2_with
      (first
        | (go_at_call 56; go_call (l08One_c r d x); rintro e w' ⟨rfl, rfl⟩))
    go_returns
    refine ⟨_, by (rw [HF.out]) <;> rfl, by rw [HF.out]; exact OwnI.nil _ _ _, ?_⟩
    repeat' (first
      | (with_reducible exact Below.refl _ _)
      | (with_reducible assumption)
      | (with_reducible refine Below.alloc ?_ ?_ _)
      | (with_reducible refine Below.drew ?_)
      | (with_reducible refine bdrewN ?_ _)
      | (with_reducible refine Below.setCell ?_ ?_ _)
      | (with_reducible refine bthen (by assumption) ?_ ?_)
      | go_size)
  have HF := Lib.hid (show fKinds r d x = (kindsTo r d x 4, 0) by simp [fKinds, hok])
  obtain ⟨⟨x0, x1⟩, ⟨hd0, hd1⟩, v0, v1⟩ := hourOk_true hok
  have hB1 : Below w.heap.size w ((w.alloc (.cells #[.int .i64 r, .int .i64 d, .int .i64 x] 40)).alloc (.cells #[] 2)) := ((Below.refl _ _).alloc (Nat.le_refl _) _).alloc (by simp) _
  have hO1 := OwnI.lit 2 (w.alloc (.cells #[.int .i64 r, .int .i64 d, .int .i64 x] 40)) (w.heap.size + 1) (by simp)
  have k0 : ((w.alloc (.cells #[.int .i64 r, .int .i64 d, .int .i64 x] 40)).alloc (.cells #[] 2)).cell? ⟨w.heap.size, 0, none⟩ = some (.int .i64 r) := by simp
  have k1 : ((w.alloc (.cells #[.int .i64 r, .int .i64 d, .int .i64 x] 40)).alloc (.cells #[] 2)).cell? ⟨w.heap.size, 1, none⟩ = some (.int .i64 d) := by simp
  have k2 : ((w.alloc (.cells #[.int .i64 r, .int .i64 d, .int .i64 x] 40)).alloc (.cells #[] 2)).cell? ⟨w.heap.size, 2, none⟩ = some (.int .i64 x) := by simp
  have kl : w.heap.size + 2 ≤ ((w.alloc (.cells #[.int .i64 r, .int .i64 d, .int .i64 x] 40)).alloc (.cells #[] 2)).heap.size := by simp
  go_enter Try.func26, Try.ntmps26
  go_wp2_with
    (first
      | (go_at_call 56; go_call (l08One_c r d x); rintro e w' ⟨rfl, rfl⟩))
  rw [World.size_alloc] at hO1
  generalize ((w.alloc (.cells #[.int .i64 r, .int .i64 d, .int .i64 x] 40)).alloc (.cells #[] 2)) = W at *
  have HO1 := Lib.hid hO1
  clear hO1
  go_loopw [4, 5] (fun v i wr => ∃ k : Nat, k ≤ 4 ∧ i = .int .i64 ((k : Int) + 1) ∧ Hid (OwnI 2 wr (w.heap.size + 1) v (kindsTo r d x k)) ∧ Below (w.heap.size + 1) W wr) (fun _ i _ => (5 - intOf i).toNat)
  case atStart => exact ⟨0, by omega, rfl, HO1, Below.refl _ _⟩
  case round =>
    obtain ⟨k, hk, rfl, HO, hBr⟩ := hrel
    have g0 := (hBr.cell (p := ⟨w.heap.size, 0, none⟩) (show w.heap.size < w.heap.size + 1 by omega)).trans k0
    have g1 := (hBr.cell (p := ⟨w.heap.size, 1, none⟩) (show w.heap.size < w.heap.size + 1 by omega)).trans k1
    have g2 := (hBr.cell (p := ⟨w.heap.size, 2, none⟩) (show w.heap.size < w.heap.size + 1 by omega)).trans k2
    have hsr := hBr.size
    have hkl := kindsTo_len r d x k
    by_cases hlt : k < 4
    · cases hk1 : kindB ((k : Int) + 1) r d x
      · have HN := Lib.hid (kindsTo_out hk1)
        go_wp2_with
          (first
            | (go_at_call 61; go_call (l08Is_c r d x ((k : Int) + 1) hd0 hd1 w.heap.size 0); rintro e w' ⟨rfl, nq, rfl⟩))
        go_roundw
        case rel =>
          refine ⟨k + 1, by omega, by go_num, Lib.hid (by rw [HN.out]; exact HO.out), ?_⟩
          repeat' (first
            | (with_reducible exact Below.refl _ _)
            | (with_reducible assumption)
            | (with_reducible refine Below.alloc ?_ ?_ _)
            | (with_reducible refine Below.drew ?_)
            | (with_reducible refine bdrewN ?_ _)
            | (with_reducible refine Below.setCell ?_ ?_ _)
            | (with_reducible refine bthen (by assumption) ?_ ?_)
            | go_size)
        case measure => simp [intOf]; omega
      · have HN := Lib.hid (kindsTo_in hk1)
        go_wp2_with (first
          | (at_builtin; refine wpList_push rfl _ _ 43 rfl Try.underlying43 int64_info ((k : Int) + 1) rfl (HO.out.drewN _) rfl rfl (by omega) (by simp; omega) ?_; intro v' w1 hO' hB'; have HO' := Lib.hid hO'; clear hO')
          | (go_at_call 61; go_call (l08Is_c r d x ((k : Int) + 1) hd0 hd1 w.heap.size 0); rintro e w' ⟨rfl, nq, rfl⟩))
        go_roundw
        case rel => exact ⟨k + 1, by omega, by go_num, Lib.hid (by rw [HN.out]; exact HO'.out), hBr.trans ((bdrewN (Below.refl _ _) _).trans hB')⟩
        case measure => simp [intOf]; omega
    · obtain rfl : k = 4 := by omega
      go_wp2
      go_returns
      refine ⟨_, by (rw [HF.out]) <;> rfl, by rw [HF.out]; exact HO.out.mono (by omega), ?_⟩
      exact hB1.trans (hBr.mono (by omega))
set_option maxHeartbeats 2000000 in
theorem implKindsOf_c (r d x : Int) (w : World) : Calls Try.prog 27 #[.agg #[.int .i64 r, .int .i64 d, .int .i64 x]] w fun e w' => ∃ v, e = .returned (.tuple #[v, .int .i64 (fKinds r d x).2]) ∧ OwnI 2 w' w.heap.size v (fKinds r d x).1 ∧ Below w.heap.size w w' := by
  cases hok : hourOk r d x
  · have HF := Lib.hid (show fKinds r d x = ([], 1) by simp [fKinds, hok])
    go_enter Try.func27, Try.ntmps27
    go_wp2_with
      (first
        | (go_at_call 48; go_call (validHour_c _ _ _ _); rintro e w' ⟨rfl, hb⟩; obtain ⟨qc, qf, qz, qs⟩ := bfacts hb; (try simp only [World.size_alloc, World.size_setCell, World.size_drew, World.heap_drewN] at qs)))
    go_returns
    refine ⟨_, by (rw [HF.out]) <;> rfl, by rw [HF.out]; exact OwnI.nil _ _ _, ?_⟩
    repeat' (first
      | (with_reducible exact Below.refl _ _)
      | (with_reducible assumption)
      | (with_reducible refine Below.alloc ?_ ?_ _)
      | (with_reducible refine Below.drew ?_)
      | (with_reducible refine bdrewN ?_ _)
      | (with_reducible refine Below.setCell ?_ ?_ _)
      | (with_reducible refine bthen (by assumption) ?_ ?_)
      | go_size)
  have HF := Lib.hid (show fKinds r d x = (kindsTo r d x 4, 0) by simp [fKinds, hok])
  obtain ⟨⟨x0, x1⟩, ⟨hd0, hd1⟩, v0, v1⟩ := hourOk_true hok
  have hB1 : Below w.heap.size w (w.alloc (.cells #[.int .i64 r, .int .i64 d, .int .i64 x] 40)) := (Below.refl _ _).alloc (Nat.le_refl _) _
  have k0 : (w.alloc (.cells #[.int .i64 r, .int .i64 d, .int .i64 x] 40)).cell? ⟨w.heap.size, 0, none⟩ = some (.int .i64 r) := by simp
  have k1 : (w.alloc (.cells #[.int .i64 r, .int .i64 d, .int .i64 x] 40)).cell? ⟨w.heap.size, 1, none⟩ = some (.int .i64 d) := by simp
  have k2 : (w.alloc (.cells #[.int .i64 r, .int .i64 d, .int .i64 x] 40)).cell? ⟨w.heap.size, 2, none⟩ = some (.int .i64 x) := by simp
  have kl : w.heap.size + 1 ≤ (w.alloc (.cells #[.int .i64 r, .int .i64 d, .int .i64 x] 40)).heap.size := by simp
  go_enter Try.func27, Try.ntmps27
  go_wp2_with (go_at_call 48; go_call (validHour_c _ _ _ _); rintro e W ⟨rfl, hb⟩; obtain ⟨qc, qf, qz, qs⟩ := bfacts hb)
  have g0 : W.cell? ⟨w.heap.size, 0, none⟩ = some (.int .i64 r) := (qc _ _ (by omega)).trans k0
  have g1 : W.cell? ⟨w.heap.size, 1, none⟩ = some (.int .i64 d) := (qc _ _ (by omega)).trans k1
  have g2 : W.cell? ⟨w.heap.size, 2, none⟩ = some (.int .i64 x) := (qc _ _ (by omega)).trans k2
  have hB2 : Below w.heap.size w W := hB1.trans (hb.mono (by omega))
  clear qc qf qz hb k0 k1 k2 hB1
  go_loopw [4, 5] (fun v i wr => ∃ k : Nat, k ≤ 4 ∧ i = .int .i64 ((k : Int) + 1) ∧ Hid (OwnI 2 wr (w.heap.size + 1) v (kindsTo r d x k)) ∧ Below (w.heap.size + 1) W wr) (fun _ i _ => (5 - intOf i).toNat)
  case atStart => exact ⟨0, by omega, rfl, Lib.hid (OwnI.nil _ _ _), Below.refl _ _⟩
  case round =>
    obtain ⟨k, hk, rfl, HO, hBr⟩ := hrel
    have h0 := (hBr.cell (p := ⟨w.heap.size, 0, none⟩) (show w.heap.size < w.heap.size + 1 by omega)).trans g0
    have h1 := (hBr.cell (p := ⟨w.heap.size, 1, none⟩) (show w.heap.size < w.heap.size + 1 by omega)).trans g1
    have h2 := (hBr.cell (p := ⟨w.heap.size, 2, none⟩) (show w.heap.size < w.heap.size + 1 by omega)).trans g2
    have hsr := hBr.size
    have hkl := kindsTo_len r d x k
    by_cases hlt : k < 4
    · cases hk1 : kindB ((k : Int) + 1) r d x
      · have HN := Lib.hid (kindsTo_out hk1)
        go_wp2_with (go_at_call 62; go_call (isKind_c r d x ((k : Int) + 1) hd0 hd1); rintro e wc ⟨rfl, hc⟩; have HO1 := Lib.hid (HO.out.below hc); have hsc := hc.size)
        go_roundw
        case rel => exact ⟨k + 1, by omega, by go_num, Lib.hid (by rw [HN.out]; exact HO1.out), hBr.trans (hc.mono (by omega))⟩
        case measure => simp [intOf]; omega
      · have HN := Lib.hid (kindsTo_in hk1)
        go_wp2_with (first
          | (at_builtin; refine wpList_push rfl _ _ 43 rfl Try.underlying43 int64_info ((k : Int) + 1) rfl HO1.out rfl rfl (by omega) (by omega) ?_; intro v' w1 hO' hB'; have HO' := Lib.hid hO'; clear hO')
          | (go_at_call 62; go_call (isKind_c r d x ((k : Int) + 1) hd0 hd1); rintro e wc ⟨rfl, hc⟩; have HO1 := Lib.hid (HO.out.below hc); have hsc := hc.size))
        go_roundw
        case rel => exact ⟨k + 1, by omega, by go_num, Lib.hid (by rw [HN.out]; exact HO'.out), (hBr.trans (hc.mono (by omega))).trans hB'⟩
        case measure => simp [intOf]; omega
    · obtain rfl : k = 4 := by omega
      go_wp2
      go_returns
      refine ⟨_, by (rw [HF.out]) <;> rfl, by rw [HF.out]; exact HO.out.mono (by omega), ?_⟩
      exact hB2.trans (hBr.mono (by omega))
set_option maxHeartbeats 4000000 in
theorem walk_FnExactKindsOf (r d x : Int) (w : World) (_ : I64 r) (_ : I64 d) (_ : I64 x) : Calls Try.prog 6 #[.agg #[.int .i64 r, .int .i64 d, .int .i64 x]] w fun e w' => e = .returned (.bool true) ∧ Below w.heap.size w w' := by
  have hs := specKindsOf_c r d x
  have hi := implKindsOf_c r d x
  have hl : (fKinds r d x).1.length ≤ 4 := by
    unfold fKinds
    split
    · exact kindsTo_len r d x 4
    · simp
  obtain ⟨xs, hx⟩ : ∃ xs, (fKinds r d x).1 = xs := ⟨_, rfl⟩
  obtain ⟨q, hq⟩ : ∃ q, (fKinds r d x).2 = q := ⟨_, rfl⟩
  simp only [hx, hq] at hs hi hl
  have HS := Lib.hid hs
  have HI := Lib.hid hi
  clear hs hi hx hq
  have hn : xs.length ≤ 1048576 := by omega
  have hB0 : Below w.heap.size w (w.alloc (.cells #[.int .i64 r, .int .i64 d, .int .i64 x] 37)) := (Below.refl _ _).alloc (Nat.le_refl _) _
  have p00 : (w.alloc (.cells #[.int .i64 r, .int .i64 d, .int .i64 x] 37)).cell? ⟨w.heap.size, 0, none⟩ = some (.int .i64 r) := by simp
  have p01 : (w.alloc (.cells #[.int .i64 r, .int .i64 d, .int .i64 x] 37)).cell? ⟨w.heap.size, 1, none⟩ = some (.int .i64 d) := by simp
  have p02 : (w.alloc (.cells #[.int .i64 r, .int .i64 d, .int .i64 x] 37)).cell? ⟨w.heap.size, 2, none⟩ = some (.int .i64 x) := by simp
  have kl : w.heap.size < (w.alloc (.cells #[.int .i64 r, .int .i64 d, .int .i64 x] 37)).heap.size := by simp
  go_enter Try.func6, Try.ntmps6
  go_wp2_with (go_at_call 24; go_call (toHour_c _ _ _ _); rintro e w1 ⟨rfl, hb1⟩; have z1 : w.heap.size < w1.heap.size := Nat.lt_of_lt_of_le kl hb1.size; have p10 := (hb1.cell (p := ⟨w.heap.size, 0, none⟩) kl).trans p00; have p11 := (hb1.cell (p := ⟨w.heap.size, 1, none⟩) kl).trans p01; have p12 := (hb1.cell (p := ⟨w.heap.size, 2, none⟩) kl).trans p02)
  go_wp2_with (go_at_call 26; (refine (HS.out _).mono ?_); rintro e w2 ⟨v0, rfl, hO2, hb2⟩; obtain ⟨A0, c0, rfl, hR2⟩ := hO2.slice; have z2 : w1.heap.size ≤ w2.heap.size := hb2.size; have p20 := (hb2.cell (p := ⟨w.heap.size, 0, none⟩) (show w.heap.size < w1.heap.size by omega)).trans p10; have p21 := (hb2.cell (p := ⟨w.heap.size, 1, none⟩) (show w.heap.size < w1.heap.size by omega)).trans p11; have p22 := (hb2.cell (p := ⟨w.heap.size, 2, none⟩) (show w.heap.size < w1.heap.size by omega)).trans p12; have HR2 := Lib.hid hR2; clear hO2 hR2)
  go_wp2_with (go_at_call 24; go_call (toHour_c _ _ _ _); rintro e w3 ⟨rfl, hb3⟩; have z3 : w2.heap.size ≤ w3.heap.size := hb3.size; have p30 := (hb3.cell (p := ⟨w.heap.size, 0, none⟩) (show w.heap.size < w2.heap.size by omega)).trans p20; have p31 := (hb3.cell (p := ⟨w.heap.size, 1, none⟩) (show w.heap.size < w2.heap.size by omega)).trans p21; have p32 := (hb3.cell (p := ⟨w.heap.size, 2, none⟩) (show w.heap.size < w2.heap.size by omega)).trans p22)
  go_wp2_with (go_at_call 27; (refine (HI.out _).mono ?_); rintro e w4 ⟨v1, rfl, hO4, hb4⟩; obtain ⟨A1, c1, rfl, hR4⟩ := hO4.slice; have z4 : w3.heap.size ≤ w4.heap.size := hb4.size; have p40 := (hb4.cell (p := ⟨w.heap.size, 0, none⟩) (show w.heap.size < w3.heap.size by omega)).trans p30; have p41 := (hb4.cell (p := ⟨w.heap.size, 1, none⟩) (show w.heap.size < w3.heap.size by omega)).trans p31; have p42 := (hb4.cell (p := ⟨w.heap.size, 2, none⟩) (show w.heap.size < w3.heap.size by omega)).trans p32; have HO4 := Lib.hid hO4; have HR3 := Lib.hid (HR2.out.below hb3); have HR0 := Lib.hid (HR3.out.below hb4); have HR4 := Lib.hid hR4; clear hO4 hR4)
  go_wp2_with (go_at_call 28; (refine (eqInt64S_c _ _ _ _ xs hn _ HR4.out HR0.out).mono ?_); rintro e w5 ⟨rfl, n5, rfl⟩)
  go_wp2_with (go_at_call 29; (refine (markInt64S_c _ xs 1 w3.heap.size (by omega) (by omega) hn _ (HO4.out.drewN _)).mono ?_); rintro e w6 ⟨rfl, ys, hy, hm, hO6, hb6⟩; have z6 : w4.heap.size ≤ w6.heap.size := hb6.size; have p60 := (hb6.cell (p := ⟨w.heap.size, 0, none⟩) (show w.heap.size < w3.heap.size by omega)).trans p40; have p61 := (hb6.cell (p := ⟨w.heap.size, 1, none⟩) (show w.heap.size < w3.heap.size by omega)).trans p41; have p62 := (hb6.cell (p := ⟨w.heap.size, 2, none⟩) (show w.heap.size < w3.heap.size by omega)).trans p42; have HM := Lib.hid (show Marked 1 ys ys.length from by rw [hy]; exact hm); have HR6 := Lib.hid hO6.row.2; have hb36 : Below w3.heap.size w3 w6 := (bdrewN hb4 n5).trans hb6; have HRX := Lib.hid (HR3.out.below hb36); clear hm hO6)
  have hyn : ys.length ≤ 1048576 := by omega
  go_wp2_with (go_at_call 30; (refine (heldInt64S_c A1 xs.length _ ys 1 hy (by omega) (by omega) hyn HM.out _ HR6.out).mono ?_); rintro e w7 ⟨rfl, rfl⟩)
  go_wp2_with (go_at_call 24; go_call (toHour_c _ _ _ _); rintro e w8 ⟨rfl, hb8⟩; have z8 : w6.heap.size ≤ w8.heap.size := hb8.size)
  go_wp2_with (go_at_call 27; (refine (HI.out _).mono ?_); rintro e w9 ⟨v2, rfl, hO9, hb9⟩; obtain ⟨A2, c2, rfl, hR9⟩ := hO9.slice; have z9 : w8.heap.size ≤ w9.heap.size := hb9.size; have HR9 := Lib.hid hR9; have HRY := Lib.hid ((HRX.out.below hb8).below hb9); have HR6' := Lib.hid ((HR6.out.below hb8).below hb9); clear hO9 hR9)
  go_wp2_with (go_at_call 28; (refine (eqInt64S_c _ _ _ _ xs hn _ HR9.out HRY.out).mono ?_); rintro e w10 ⟨rfl, n10, rfl⟩)
  go_wp2_with (go_at_call 30; (refine (heldInt64S_c A1 xs.length _ ys 1 hy (by omega) (by omega) hyn HM.out _ (HR6'.out.drewN _)).mono ?_); rintro e w11 ⟨rfl, rfl⟩)
  go_returns
  refine ⟨by simp, ?_⟩
  have hB3 : Below w.heap.size w w3 := ((hB0.trans (hb1.mono (by omega))).trans (hb2.mono (by omega))).trans (hb3.mono (by omega))
  have hB6 : Below w.heap.size w w6 := hB3.trans (hb36.mono (by omega))
  exact bdrewN ((hB6.trans (hb8.mono (by omega))).trans (hb9.mono (by omega))) _
end Go.Proofs.Ytelakibjcihfaaa
