/- Energy: the program, where its arguments are good. -/
import Derived.Test.YtgnanppgbkngnaaM6
namespace Go.Proofs.Ytgnanppgbkngnaa
open Go.ChangeShapes Go.WideShapes Go.ChangeAt Go.RowKit
set_option linter.unusedVariables false
set_option linter.unusedSimpArgs false

theorem canDo_v {p m l f v : Int} {b : Bool} (hc : canB p m l f v = b) (hl0 : 0 ≤ l) (hl1 : l ≤ 500) (hf : inB f (-1000000) 1000000 = true) (hv : inB v 0 20000 = true) (w : World) : Calls Try.prog 57 #[.agg #[.int .i64 p, .int .i64 m, .int .i64 l], .int .i64 f, .int .i64 v] w fun e w' => e = .returned (.bool b) ∧ Below w.heap.size w w' := by
  subst hc
  exact canDo_c p m l f v hl0 hl1 hf hv w
set_option maxHeartbeats 1000000 in
theorem energy_t (p m l v s : Int) (A : Option Addr) (c : Nat) (xs : List Int) (hn : xs.length ≤ 1048576) (hok : motorOk p m l = true) (hf : foB xs = true) (hv : inB v 0 20000 = true) (hs : inB s 0 100000 = true) (w : World) (hr : RowI w A xs) : Calls Try.prog 66 #[.agg #[.int .i64 p, .int .i64 m, .int .i64 l], .slice A xs.length c, .int .i64 v, .int .i64 s] w fun e w' => e = .returned (.tuple #[.int .i64 (fEnergy p m l v s xs).1, .int .i64 (fEnergy p m l v s xs).2.1, .int .i64 (fEnergy p m l v s xs).2.2]) ∧ Below w.heap.size w w' := by
  obtain ⟨⟨p0, p1⟩, ⟨m0, m1⟩, ⟨l0, l1⟩⟩ := motorOk_true hok
  obtain ⟨hlen, hall⟩ := foB_true hf
  obtain ⟨s0, s1⟩ := inB_true hs
  have HF := Lib.hid (show fEnergy p m l v s xs = if allCan p m l v xs then (needTo l v xs xs.length * s, backTo l v xs xs.length * s, 0) else (0, 0, 6) by simp only [fEnergy, hok, hf, hv, hs, Bool.and_self, if_true])
  have HS := Lib.hid (fun k hk hc => sums_bd (p := p) (m := m) (l := l) (v := v) (xs := xs) p1 l0 l1 hv hall k hk hc)
  have HALL := Lib.hid hall
  clear hall
  go_enter Try.func66, Try.ntmps66
  go_wp2
  go_region_held3 (fun w' => w'.cell? ⟨w.heap.size, 0, none⟩ = some (.int .i64 p) ∧ w'.cell? ⟨w.heap.size, 1, none⟩ = some (.int .i64 m) ∧ w'.cell? ⟨w.heap.size, 2, none⟩ = some (.int .i64 l)) (simp [*, go_sem])
    (first
      | (go_at_call 60; (apply Calls.mono; focus ((apply (areForces_v hf _ _ hn)); (all_goals (first | (with_reducible assumption) | omega | (repeat (first | (with_reducible assumption) | (with_reducible exact RowI.new _ _ _) | ((with_reducible refine RowI.new_at ?_); (simp; done)) | (with_reducible refine RowI.drewN ?_ _) | (with_reducible refine RowI.drew ?_) | (with_reducible refine RowI.alloc ?_ _) | (with_reducible refine RowI.below ?_ (by with_reducible assumption)))))); done)); rintro e w' ⟨rfl, rfl⟩)
      | (go_at_call 69; go_call (isPace_v hv _); rintro e w' ⟨rfl, rfl⟩)
      | (go_at_call 48; go_call (within_v hs _); rintro e w' ⟨rfl, rfl⟩)
      | (go_at_call 53; go_call (motored_c _ _ _ _ _); rintro e w' ⟨rfl, hb⟩; obtain ⟨qc, qf, qz, qs⟩ := bfacts hb; (try simp only [World.size_alloc, World.size_setCell, World.size_drew, World.heap_drewN] at qs)))
  go_wp2
  have hB : Below w.heap.size w w' := by
    repeat' (first
      | (with_reducible exact Below.refl _ _)
      | (with_reducible assumption)
      | (with_reducible refine Below.alloc ?_ ?_ _)
      | (with_reducible refine Below.drew ?_)
      | (with_reducible refine bdrewN ?_ _)
      | (with_reducible refine Below.setCell ?_ ?_ _)
      | (with_reducible refine bthen (by assumption) ?_ ?_)
      | go_size)
  have hr' : RowI w' A xs := hr.below hB
  have z0 : w.heap.size < w'.heap.size := by omega
  have k0 : w'.cell? ⟨w.heap.size, 0, none⟩ = some (.int .i64 p) := by simp [*]
  have k1 : w'.cell? ⟨w.heap.size, 1, none⟩ = some (.int .i64 m) := by simp [*]
  have k2 : w'.cell? ⟨w.heap.size, 2, none⟩ = some (.int .i64 l) := by simp [*]
  have HV := Lib.hid hv
  clear hr qc qf qz qs hb hok hf hs hv
  go_loopw [12, 13, 34] (fun x y i wr => ∃ k : Nat, k ≤ xs.length ∧ i = .int .i64 k ∧ x = .int .i64 (needTo l v xs k) ∧ y = .int .i64 (backTo l v xs k) ∧ Hid (∀ j, j < k → canB p m l (nth xs j) v = true) ∧ Below w'.heap.size w' wr) (fun _ _ i _ => xs.length - (intOf i).toNat)
  case atStart => exact ⟨0, by omega, rfl, rfl, rfl, Lib.hid (fun j hj => by omega), Below.refl _ _⟩
  case round =>
    obtain ⟨k, hk, rfl, rfl, rfl, HC, hBr⟩ := hrel
    obtain ⟨⟨n0, n1⟩, b0, b1⟩ := HS.out k hk HC.out
    have hsr := hBr.size
    have c0 := (hBr.cell (p := ⟨w.heap.size, 0, none⟩) z0).trans k0
    have c1 := (hBr.cell (p := ⟨w.heap.size, 1, none⟩) z0).trans k1
    have c2 := (hBr.cell (p := ⟨w.heap.size, 2, none⟩) z0).trans k2
    have y0 : w.heap.size < wr.heap.size := by omega
    by_cases hlt : k < xs.length
    · obtain ⟨b, off, hA, hbb, hc⟩ := (hr'.below hBr).at_ hlt
      subst hA
      obtain ⟨a0, a1⟩ := HALL.out k hlt
      have hfk : inB (nth xs k) (-1000000) 1000000 = true := inB_of a0 a1
      have j1 : (k : Int) < xs.length := by omega
      cases hcn : canB p m l (nth xs k) v
      · have HA := Lib.hid (show allCan p m l v xs = false from allCan_bad hlt hcn)
        go_wp2_with (go_at_call 57; go_call (canDo_v hcn l0 l1 hfk HV.out _); rintro e wC ⟨rfl, hbC⟩)
        go_returns
        exact ⟨by rw [HF.out, HA.out]; rfl, hB.trans (hBr.trans (hbC.mono hsr) |>.mono (by omega))⟩
      · obtain ⟨q0, q1⟩ := powerI_bd p1 l0 l1 hfk HV.out hcn
        have HN := Lib.hid (show ∀ j, j < k + 1 → canB p m l (nth xs j) v = true from fun j hj => by
          rcases Nat.lt_or_ge j k with h1 | h1
          · exact HC.out j h1
          · obtain rfl : j = k := by omega
            exact hcn)
        have HT := Lib.hid (show needTo l v xs (k + 1) = needTo l v xs k + max 0 (powerI l (nth xs k) v) from rfl)
        have HT2 := Lib.hid (show backTo l v xs (k + 1) = backTo l v xs k + max 0 (-powerI l (nth xs k) v) from rfl)
        rcases Int.lt_or_le 0 (powerI l (nth xs k) v) with hp | hp
        all_goals
          go_wp2_with (first
            | (go_at_call 57; go_call (canDo_v hcn l0 l1 hfk HV.out _); rintro e wC ⟨rfl, hbC⟩; have d0 := (hbC.cell (p := ⟨w.heap.size, 0, none⟩) y0).trans c0; have d1 := (hbC.cell (p := ⟨w.heap.size, 1, none⟩) y0).trans c1; have d2 := (hbC.cell (p := ⟨w.heap.size, 2, none⟩) y0).trans c2; have hsC := hbC.size)
            | (go_at_call 87; go_call (power_c _ _ _ _ _ l0 l1 hfk HV.out _); rintro e wP ⟨rfl, hbP⟩))
          go_roundw
          case rel => exact ⟨k + 1, by omega, by go_num, by rw [HT.out]; congr 1; omega, by rw [HT2.out]; congr 1; omega, HN, hBr.trans ((hbC.trans (hbP.mono hsC)).mono hsr)⟩
          case measure => simp [intOf]; omega
    · obtain rfl : k = xs.length := by omega
      have HA := Lib.hid (show allCan p m l v xs = true from allCan_good HC.out)
      obtain ⟨t0, t1⟩ := mul_bd n0 (show needTo l v xs xs.length ≤ 600000000 by omega) s0 s1
      obtain ⟨t2, t3⟩ := mul_bd b0 (show backTo l v xs xs.length ≤ 1200000000 by omega) s0 s1
      go_wp2
      go_returns
      exact ⟨by rw [HF.out, HA.out]; rfl, hB.trans (hBr.mono (by omega))⟩
set_option maxHeartbeats 2000000 in
theorem energy_b (p m l v s : Int) (A : Option Addr) (c : Nat) (xs : List Int) (hn : xs.length ≤ 1048576) (hf : foB xs = true) (hv : inB v 0 20000 = true) (w : World) (hr : RowI w A xs) (hb : (motorOk p m l && inB s 0 100000) = false) : Calls Try.prog 66 #[.agg #[.int .i64 p, .int .i64 m, .int .i64 l], .slice A xs.length c, .int .i64 v, .int .i64 s] w fun e w' => e = .returned (.tuple #[.int .i64 (fEnergy p m l v s xs).1, .int .i64 (fEnergy p m l v s xs).2.1, .int .i64 (fEnergy p m l v s xs).2.2]) ∧ Below w.heap.size w w' := by
  cases hok : motorOk p m l <;> cases hs : inB s 0 100000
  case true.true => simp [hok, hs] at hb
  all_goals
    clear hb
    go_enter Try.func66, Try.ntmps66
    go_wp2
    go_region_held3 (fun w' => w'.cell? ⟨w.heap.size, 0, none⟩ = some (.int .i64 p) ∧ w'.cell? ⟨w.heap.size, 1, none⟩ = some (.int .i64 m) ∧ w'.cell? ⟨w.heap.size, 2, none⟩ = some (.int .i64 l)) (simp [*, go_sem])
      (first
        | (go_at_call 60; (apply Calls.mono; focus ((apply (areForces_v hf _ _ hn)); (all_goals (first | (with_reducible assumption) | omega | (repeat (first | (with_reducible assumption) | (with_reducible exact RowI.new _ _ _) | ((with_reducible refine RowI.new_at ?_); (simp; done)) | (with_reducible refine RowI.drewN ?_ _) | (with_reducible refine RowI.drew ?_) | (with_reducible refine RowI.alloc ?_ _) | (with_reducible refine RowI.below ?_ (by with_reducible assumption)))))); done)); rintro e w' ⟨rfl, rfl⟩)
        | (go_at_call 69; go_call (isPace_v hv _); rintro e w' ⟨rfl, rfl⟩)
        | (go_at_call 48; go_call (within_v hs _); rintro e w' ⟨rfl, rfl⟩)
        | (go_at_call 53; go_call (motored_c _ _ _ _ _); rintro e w' ⟨rfl, hb⟩; obtain ⟨qc, qf, qz, qs⟩ := bfacts hb; (try simp only [World.size_alloc, World.size_setCell, World.size_drew, World.heap_drewN] at qs)))
    go_wp2
    go_returns
    refine ⟨by simp [fEnergy, hok, hf, hv, hs], ?_⟩
    repeat' (first
      | (with_reducible exact Below.refl _ _)
      | (with_reducible assumption)
      | (with_reducible refine Below.alloc ?_ ?_ _)
      | (with_reducible refine Below.drew ?_)
      | (with_reducible refine bdrewN ?_ _)
      | (with_reducible refine Below.setCell ?_ ?_ _)
      | (with_reducible refine bthen (by assumption) ?_ ?_)
      | go_size)
end Go.Proofs.Ytgnanppgbkngnaa
