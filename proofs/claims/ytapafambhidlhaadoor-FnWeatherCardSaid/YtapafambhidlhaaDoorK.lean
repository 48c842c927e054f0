/- KindsOf. -/
import Derived.Test.YtapafambhidlhaaDoorZ
import Derived.Test.YtapafambhidlhaaDoorOW
namespace Go.Proofs.YtapafambhidlhaaDoor
open Go.ChangeShapes Go.WideShapes Go.ChangeAt Go.RowKit
set_option linter.unusedVariables false
set_option linter.unusedSimpArgs false

def kindsTo (r d x : Int) : Nat → List Int
  | 0 => []
  | k + 1 => if kindB ((k : Int) + 1) r d x then kindsTo r d x k ++ [(k : Int) + 1] else kindsTo r d x k
theorem kindsTo_in {r d x : Int} {k : Nat} (h : kindB ((k : Int) + 1) r d x = true) : kindsTo r d x (k + 1) = kindsTo r d x k ++ [(k : Int) + 1] := by rw [kindsTo, if_pos h]
theorem kindsTo_out {r d x : Int} {k : Nat} (h : kindB ((k : Int) + 1) r d x = false) : kindsTo r d x (k + 1) = kindsTo r d x k := by rw [kindsTo, if_neg (by simp [h])]
theorem kindsTo_len (r d x : Int) : ∀ k, (kindsTo r d x k).length ≤ k
  | 0 => by simp [kindsTo]
  | k + 1 => by
    have := kindsTo_len r d x k
    simp only [kindsTo]
    split <;> simp <;> omega
def fKinds (r d x : Int) : List Int × Int := if hourOk r d x then (kindsTo r d x 4, 0) else ([], 1)
set_option maxHeartbeats 2000000 in
theorem implKindsOf_c (r d x : Int) (w : World) : Calls Tryd.prog 6 #[.agg #[.int .i64 r, .int .i64 d, .int .i64 x]] w fun e w' => ∃ v, e = .returned (.tuple #[v, .int .i64 (fKinds r d x).2]) ∧ OwnI 2 w' w.heap.size v (fKinds r d x).1 ∧ Below w.heap.size w w' := by
  cases hok : hourOk r d x
  · have HF := Lib.hid (show fKinds r d x = ([], 1) by simp [fKinds, hok])
    go_enter Tryd.func6, Tryd.ntmps6
    go_wp2_with
      (first
        | (go_at_call 19; go_call (validHour_c _ _ _ _); rintro e w' ⟨rfl, hb⟩; obtain ⟨qc, qf, qz, qs⟩ := bfacts hb; (try simp only [World.size_alloc, World.size_setCell, World.size_drew, World.heap_drewN] at qs)))
    go_returns
    refine ⟨_, by (rw [HF.out]) <;> rfl, by rw [HF.out]; exact OwnI.nil _ _ _, ?_⟩
    repeat' (first
      | (with_reducible exact Below.refl _ _)
      | (with_reducible assumption)
      | (with_reducible refine Below.alloc ?_ ?_ _)
      | (with_reducible refine Below.drew ?_)
      | (with_reducible refine bdrewN ?_ _)
      | (with_reducible refine Below.setCell ?_ ?_ _)
      | (with_reducible refine bthen (by assumption) ?_ ?_)
      | go_size)
  have HF := Lib.hid (show fKinds r d x = (kindsTo r d x 4, 0) by simp [fKinds, hok])
  obtain ⟨⟨x0, x1⟩, ⟨hd0, hd1⟩, v0, v1⟩ := hourOk_true hok
  have hB1 : Below w.heap.size w (w.alloc (.cells #[.int .i64 r, .int .i64 d, .int .i64 x] 25)) := (Below.refl _ _).alloc (Nat.le_refl _) _
  have k0 : (w.alloc (.cells #[.int .i64 r, .int .i64 d, .int .i64 x] 25)).cell? ⟨w.heap.size, 0, none⟩ = some (.int .i64 r) := by simp
  have k1 : (w.alloc (.cells #[.int .i64 r, .int .i64 d, .int .i64 x] 25)).cell? ⟨w.heap.size, 1, none⟩ = some (.int .i64 d) := by simp
  have k2 : (w.alloc (.cells #[.int .i64 r, .int .i64 d, .int .i64 x] 25)).cell? ⟨w.heap.size, 2, none⟩ = some (.int .i64 x) := by simp
  have kl : w.heap.size + 1 ≤ (w.alloc (.cells #[.int .i64 r, .int .i64 d, .int .i64 x] 25)).heap.size := by simp
  go_enter Tryd.func6, Tryd.ntmps6
  go_wp2_with (go_at_call 19; go_call (validHour_c _ _ _ _); rintro e W ⟨rfl, hb⟩; obtain ⟨qc, qf, qz, qs⟩ := bfacts hb)
  have g0 : W.cell? ⟨w.heap.size, 0, none⟩ = some (.int .i64 r) := (qc _ _ (by omega)).trans k0
  have g1 : W.cell? ⟨w.heap.size, 1, none⟩ = some (.int .i64 d) := (qc _ _ (by omega)).trans k1
  have g2 : W.cell? ⟨w.heap.size, 2, none⟩ = some (.int .i64 x) := (qc _ _ (by omega)).trans k2
  have hB2 : Below w.heap.size w W := hB1.trans (hb.mono (by omega))
  clear qc qf qz hb k0 k1 k2 hB1
  go_loopw [4, 5] (fun v i wr => ∃ k : Nat, k ≤ 4 ∧ i = .int .i64 ((k : Int) + 1) ∧ Hid (OwnI 2 wr (w.heap.size + 1) v (kindsTo r d x k)) ∧ Below (w.heap.size + 1) W wr) (fun _ i _ => (5 - intOf i).toNat)
  case atStart => exact ⟨0, by omega, rfl, Lib.hid (OwnI.nil _ _ _), Below.refl _ _⟩
  case round =>
    obtain ⟨k, hk, rfl, HO, hBr⟩ := hrel
    have h0 := (hBr.cell (p := ⟨w.heap.size, 0, none⟩) (show w.heap.size < w.heap.size + 1 by omega)).trans g0
    have h1 := (hBr.cell (p := ⟨w.heap.size, 1, none⟩) (show w.heap.size < w.heap.size + 1 by omega)).trans g1
    have h2 := (hBr.cell (p := ⟨w.heap.size, 2, none⟩) (show w.heap.size < w.heap.size + 1 by omega)).trans g2
    have hsr := hBr.size
    have hkl := kindsTo_len r d x k
    by_cases hlt : k < 4
    · cases hk1 : kindB ((k : Int) + 1) r d x
      · have HN := Lib.hid (kindsTo_out hk1)
        go_wp2_with (go_at_call 20; go_call (isKind_c r d x ((k : Int) + 1) hd0 hd1); rintro e wc ⟨rfl, hc⟩; have HO1 := Lib.hid (HO.out.below hc); have hsc := hc.size)
        go_roundw
        case rel => exact ⟨k + 1, by omega, by go_num, Lib.hid (by rw [HN.out]; exact HO1.out), hBr.trans (hc.mono (by omega))⟩
        case measure => simp [intOf]; omega
      · have HN := Lib.hid (kindsTo_in hk1)
        go_wp2_with (first
          | (at_builtin; refine wpList_push rfl _ _ 27 rfl Tryd.underlying27 int64_info ((k : Int) + 1) rfl HO1.out rfl rfl (by omega) (by omega) ?_; intro v' w1 hO' hB'; have HO' := Lib.hid hO'; clear hO')
          | (go_at_call 20; go_call (isKind_c r d x ((k : Int) + 1) hd0 hd1); rintro e wc ⟨rfl, hc⟩; have HO1 := Lib.hid (HO.out.below hc); have hsc := hc.size))
        go_roundw
        case rel => exact ⟨k + 1, by omega, by go_num, Lib.hid (by rw [HN.out]; exact HO'.out), (hBr.trans (hc.mono (by omega))).trans hB'⟩
        case measure => simp [intOf]; omega
    · obtain rfl : k = 4 := by omega
      go_wp2
      go_returns
      refine ⟨_, by (rw [HF.out]) <;> rfl, by rw [HF.out]; exact HO.out.mono (by omega), ?_⟩
      exact hB2.trans (hBr.mono (by omega))
end Go.Proofs.YtapafambhidlhaaDoor
