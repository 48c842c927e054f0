/- The gear for a force and a speed: the program, and the law. -/
import Derived.Test.YtgnanppgbkngnaaM8
namespace Go.Proofs.Ytgnanppgbkngnaa
open Go.ChangeShapes Go.WideShapes Go.ChangeAt Go.RowKit
set_option linter.unusedVariables false
set_option linter.unusedSimpArgs false

theorem riseTo_true {xs : List Int} {lo hi : Int} {k : Nat} (h : riseTo xs lo hi k = true) (g : stepB xs lo hi k = true) : riseTo xs lo hi (k + 1) = true := by rw [riseTo, h, g]; rfl
theorem riseTo_stop {xs : List Int} {lo hi : Int} {k : Nat} (g : stepB xs lo hi k = false) : riseTo xs lo hi (k + 1) = false := by rw [riseTo, g]; simp
theorem riseTo_past {xs : List Int} {lo hi : Int} {k : Nat} (h : riseTo xs lo hi k = false) : riseTo xs lo hi (k + 1) = false := by rw [riseTo, h]; rfl
set_option maxHeartbeats 2000000 in
theorem implGear_bad (p m l f v : Int) (A : Option Addr) (c : Nat) (xs : List Int) (hn : xs.length ≤ 1048576) (hb : gearB f v xs = false) (w : World) (hr : RowI w A xs) : Calls Try.prog 35 #[.agg #[.int .i64 p, .int .i64 m, .int .i64 l], .slice A xs.length c, .int .i64 f, .int .i64 v] w fun e w' => e = .returned (.tuple #[.int .i64 (fGear p m l f v xs).1, .int .i64 (fGear p m l f v xs).2]) ∧ Below w.heap.size w w' := by
  have hb' := hb
  simp only [gearB] at hb'
  have hr1 : RowI (w.alloc (.cells #[.int .i64 p, .int .i64 m, .int .i64 l] 28)) A xs := hr.alloc _
  have h3 : (1 ≤ (xs.length : Int) → False) ∨ (1 ≤ (xs.length : Int) ∧ 6 < (xs.length : Int)) ∨ (1 ≤ (xs.length : Int) ∧ (xs.length : Int) ≤ 6 ∧ inB f (-1000000) 1000000 = false) ∨ (1 ≤ (xs.length : Int) ∧ (xs.length : Int) ≤ 6 ∧ inB f (-1000000) 1000000 = true ∧ inB v 0 20000 = false) := by
    by_cases a : 1 ≤ (xs.length : Int)
    · by_cases b : (xs.length : Int) ≤ 6
      · cases cc : inB f (-1000000) 1000000
        · exact .inr (.inr (.inl ⟨a, b, rfl⟩))
        · cases d : inB v 0 20000
          · exact .inr (.inr (.inr ⟨a, b, rfl, rfl⟩))
          · simp [a, b, cc, d] at hb'
      · exact .inr (.inl ⟨a, by omega⟩)
    · exact .inl a
  clear hb'
  cases hok : motorOk p m l
  all_goals
    have HF := Lib.hid (show fGear p m l f v xs = (0, codeOf (motorOk p m l) false) by rw [hok]; simp [fGear, hok, hb])
    rw [hok] at HF
    rcases h3 with n0 | ⟨n0, n1⟩ | ⟨n0, n1, hf⟩ | ⟨n0, n1, hf, hv⟩
    all_goals
      have HB := Lib.hid hb
      clear hb
      try have n0' : (xs.length : Int) < 1 := by omega
      go_enter Try.func35, Try.ntmps35
      go_wp2_with
        (first
          | (go_at_call 54; go_call (isForce_c _ _); rintro e w' ⟨rfl, rfl⟩)
          | (go_at_call 69; go_call (isPace_c _ _); rintro e w' ⟨rfl, rfl⟩))
      go_loop [10, 36] (fun b i => ∃ k : Nat, k ≤ xs.length ∧ i = .int .i64 k ∧ b = .bool false) (fun _ i => xs.length - (intOf i).toNat)
      case atStart => exact ⟨0, by omega, rfl, by first | rfl | simp [*]⟩
      case round =>
        obtain ⟨k, hk, rfl, rfl⟩ := hrel
        by_cases hlt : k < xs.length
        · obtain ⟨b, off, rfl, hbb, hc⟩ := hr1.at_ hlt
          have i1 : (k : Int) < xs.length := by omega
          go_wp2
          go_round
          case rel => exact ⟨k + 1, by omega, by go_num, rfl⟩
          case measure => simp [intOf]; omega
        ·
          go_wp2_with
            (first
              | (go_at_call 53; go_call (motored_c _ _ _ _ _); rintro e w' ⟨rfl, hb⟩; obtain ⟨qc, qf, qz, qs⟩ := bfacts hb; (try simp only [World.size_alloc, World.size_setCell, World.size_drew, World.heap_drewN] at qs)))
          go_returns
          refine ⟨by (rw [HF.out]) <;> simp [*], ?_⟩
          repeat' (first
            | (with_reducible exact Below.refl _ _)
            | (with_reducible assumption)
            | (with_reducible refine Below.alloc ?_ ?_ _)
            | (with_reducible refine Below.drew ?_)
            | (with_reducible refine bdrewN ?_ _)
            | (with_reducible refine Below.setCell ?_ ?_ _)
            | (with_reducible refine bthen (by assumption) ?_ ?_)
            | go_size)
set_option maxHeartbeats 2000000 in
theorem implGear_good (p m l f v : Int) (A : Option Addr) (c : Nat) (xs : List Int) (hn : xs.length ≤ 1048576) (hb : gearB f v xs = true) (w : World) (hr : RowI w A xs) : Calls Try.prog 35 #[.agg #[.int .i64 p, .int .i64 m, .int .i64 l], .slice A xs.length c, .int .i64 f, .int .i64 v] w fun e w' => e = .returned (.tuple #[.int .i64 (fGear p m l f v xs).1, .int .i64 (fGear p m l f v xs).2]) ∧ Below w.heap.size w w' := by
  have hb' := hb
  simp only [gearB, Bool.and_eq_true, decide_eq_true_eq] at hb'
  obtain ⟨⟨⟨n0, n1⟩, hf⟩, hv⟩ := hb'
  obtain ⟨f0, f1⟩ := inB_true hf
  obtain ⟨v0, v1⟩ := inB_true hv
  have HF := Lib.hid (show fGear p m l f v xs = if motorOk p m l then (if risesB xs 100 10000 then gearI p m l f v xs xs.length 0 else (0, 2)) else (0, 1) by simp only [fGear, hb, Bool.true_and])
  clear hb
  have hr1 : RowI (w.alloc (.cells #[.int .i64 p, .int .i64 m, .int .i64 l] 28)) A xs := hr.alloc _
  go_enter Try.func35, Try.ntmps35
  go_wp2_with
    (first
      | (go_at_call 54; go_call (isForce_v hf _); rintro e w' ⟨rfl, rfl⟩)
      | (go_at_call 69; go_call (isPace_v hv _); rintro e w' ⟨rfl, rfl⟩))
  clear hf hv
  have k0 : (w.alloc (.cells #[.int .i64 p, .int .i64 m, .int .i64 l] 28)).cell? ⟨w.heap.size, 0, none⟩ = some (.int .i64 p) := by simp
  have k1 : (w.alloc (.cells #[.int .i64 p, .int .i64 m, .int .i64 l] 28)).cell? ⟨w.heap.size, 1, none⟩ = some (.int .i64 m) := by simp
  have k2 : (w.alloc (.cells #[.int .i64 p, .int .i64 m, .int .i64 l] 28)).cell? ⟨w.heap.size, 2, none⟩ = some (.int .i64 l) := by simp
  have kl : w.heap.size < (w.alloc (.cells #[.int .i64 p, .int .i64 m, .int .i64 l] 28)).heap.size := by simp
  have kB : Below w.heap.size w (w.alloc (.cells #[.int .i64 p, .int .i64 m, .int .i64 l] 28)) := (Below.refl _ _).alloc (Nat.le_refl _) _
  clear hr
  generalize w.alloc (.cells #[.int .i64 p, .int .i64 m, .int .i64 l] 28) = W at *
  go_loop [10, 36] (fun b i => ∃ k : Nat, k ≤ xs.length ∧ i = .int .i64 k ∧ b = .bool (riseTo xs 100 10000 k)) (fun _ i => xs.length - (intOf i).toNat)
  case atStart => exact ⟨0, by omega, rfl, rfl⟩
  case round =>
    obtain ⟨k, hk, rfl, rfl⟩ := hrel
    by_cases hlt : k < xs.length
    · obtain ⟨b, off, rfl, hbb, hc⟩ := hr1 (by omega)
      have c1 := hc k hlt
      have i1 : (k : Int) < xs.length := by omega
      cases hq : riseTo xs 100 10000 k
      · have HN := Lib.hid (riseTo_past hq)
        clear hc
        go_wp2
        go_round
        case rel => exact ⟨k + 1, by omega, by go_num, by rw [HN.out]⟩
        case measure => simp [intOf]; omega
      · rcases k with _ | j
        · have c1' : W.cell? ⟨b, off, none⟩ = some (.int .i64 (nth xs 0)) := c1
          clear hc
          cases g : inB (nth xs 0) 100 10000
          · have HN := Lib.hid (riseTo_stop (xs := xs) (lo := 100) (hi := 10000) (k := 0) g)
            go_wp2_with
              (first
                | (go_at_call 48; go_call (within_c _ _ _ _); rintro e w' ⟨rfl, rfl⟩))
            go_round
            case rel => exact ⟨0 + 1, by omega, by go_num, by rw [HN.out]⟩
            case measure => simp [intOf]; omega
          · have HN := Lib.hid (riseTo_true hq (show stepB xs 100 10000 0 = true from g))
            go_wp2_with
              (first
                | (go_at_call 48; go_call (within_c _ _ _ _); rintro e w' ⟨rfl, rfl⟩))
            go_round
            case rel => exact ⟨0 + 1, by omega, by go_num, by rw [HN.out]⟩
            case measure => simp [intOf]; omega
        · have c0 := hc j (by omega)
          have c1' : W.cell? ⟨b, off + j + 1, none⟩ = some (.int .i64 (nth xs (j + 1))) := by rw [Nat.add_assoc]; exact c1
          have i0 : (j : Int) < xs.length := by omega
          clear hc
          cases g : inB (nth xs (j + 1)) 100 10000
          · have HN := Lib.hid (riseTo_stop (xs := xs) (lo := 100) (hi := 10000) (k := j + 1) (by rw [stepB, g]; rfl))
            go_wp2_with
              (first
                | (go_at_call 48; go_call (within_c _ _ _ _); rintro e w' ⟨rfl, rfl⟩))
            go_round
            case rel => exact ⟨j + 1 + 1, by omega, by go_num, by rw [HN.out]⟩
            case measure => simp [intOf]; omega
          · have z1 : ((j : Int) + 1 == 0) = false := beq_eq_false_iff_ne.2 (by omega)
            cases g2 : decide (nth xs j < nth xs (j + 1))
            rotate_left
            · have HN := Lib.hid (riseTo_true hq (show stepB xs 100 10000 (j + 1) = true by rw [stepB, g]; simp at g2; simp; omega))
              go_wp2_with
                (first
                  | (go_at_call 48; go_call (within_c _ _ _ _); rintro e w' ⟨rfl, rfl⟩))
              go_round
              case rel => exact ⟨j + 1 + 1, by omega, by go_num, by rw [HN.out]⟩
              case measure => simp [intOf]; omega
            · have HN := Lib.hid (riseTo_stop (xs := xs) (lo := 100) (hi := 10000) (k := j + 1) (by rw [stepB, g]; simp at g2; simp; omega))
              go_wp2_with
                (first
                  | (go_at_call 48; go_call (within_c _ _ _ _); rintro e w' ⟨rfl, rfl⟩))
              go_round
              case rel => exact ⟨j + 1 + 1, by omega, by go_num, by rw [HN.out]⟩
              case measure => simp [intOf]; omega
    · obtain rfl : k = xs.length := by omega
      cases hq : riseTo xs 100 10000 xs.length <;> cases hok : motorOk p m l
      case true.true =>
        have HAT := Lib.hid (fun j (hj : j < xs.length) => rise_at hq hj)
        obtain ⟨⟨p0, p1⟩, ⟨m0, m1⟩, ⟨l0, l1⟩⟩ := motorOk_true hok
        have HF2 := Lib.hid (show fGear p m l f v xs = gearI p m l f v xs xs.length 0 by rw [HF.out, hok, show risesB xs 100 10000 = true from hq]; rfl)
        have HOK := Lib.hid hok
        go_wp2_with
          (first
            | (go_at_call 53; go_call (motored_c _ _ _ _ _); rintro e w' ⟨rfl, hb⟩; obtain ⟨qc, qf, qz, qs⟩ := bfacts hb; (try simp only [World.size_alloc, World.size_setCell, World.size_drew, World.heap_drewN] at qs)))
        have kB1 : Below w.heap.size w w' := kB.trans (hb.mono kB.size)
        have hr2 : RowI w' A xs := hr1.below hb
        have e0 := (hb.cell (p := ⟨w.heap.size, 0, none⟩) kl).trans k0
        have e1 := (hb.cell (p := ⟨w.heap.size, 1, none⟩) kl).trans k1
        have e2 := (hb.cell (p := ⟨w.heap.size, 2, none⟩) kl).trans k2
        have el : w.heap.size < w'.heap.size := Nat.lt_of_lt_of_le kl hb.size
        clear qc qf qz qs hb k0 k1 k2 kl kB hr1 hq hok HF
        go_loopw [68] (fun i wr => ∃ q k : Nat, k + q = xs.length ∧ i = .int .i64 k ∧ Hid (gearI p m l f v xs q k = gearI p m l f v xs xs.length 0) ∧ Below w'.heap.size w' wr) (fun i _ => xs.length - (intOf i).toNat)
        case atStart => exact ⟨xs.length, 0, by omega, rfl, Lib.hid rfl, Below.refl _ _⟩
        case round =>
          obtain ⟨q, k, hk2, rfl, HK, hBr⟩ := hrel
          have hsr := hBr.size
          have d0 := (hBr.cell (p := ⟨w.heap.size, 0, none⟩) el).trans e0
          have d1 := (hBr.cell (p := ⟨w.heap.size, 1, none⟩) el).trans e1
          have d2 := (hBr.cell (p := ⟨w.heap.size, 2, none⟩) el).trans e2
          have dl : w.heap.size < wr.heap.size := by omega
          have kBr : Below w.heap.size w wr := kB1.trans (hBr.mono (by omega))
          by_cases hlt2 : k < xs.length
          · obtain ⟨q, rfl⟩ : ∃ q', q = q' + 1 := ⟨q - 1, by omega⟩
            obtain ⟨g0, g1⟩ := HAT.out k hlt2
            obtain ⟨b, off, rfl, hbb, hc⟩ := (hr2.below hBr).at_ hlt2
            have i1 : (k : Int) < xs.length := by omega
            obtain ⟨⟨V2, V3⟩, V0, V1⟩ := gearV_bd (g := nth xs k) v0 v1 (by omega) g1
            have a1 : IntKind.i64.wrap (1000 * f) = 1000 * f := IntWalk.i64_in _ (by omega)
            have a2 : IntKind.i64.wrap (v * nth xs k) = v * nth xs k := IntWalk.i64_in _ (by omega)
            have b1 : -4000000000000000000 ≤ 1000 * f := by omega
            have b2 : 1000 * f ≤ 4000000000000000000 := by omega
            cases hh : hitB p m l f v (nth xs k)
            · have HN := Lib.hid (gearI_on (n := q) hh)
              have hz : ((fPower p m l (divR (1000 * f) (nth xs k)) (divR (v * nth xs k) 1000)).2 == 0) = false := (fPower_ok HOK.out).trans hh
              clear hh
              go_wp2
              first
                | go_region_held3 (fun w' => w'.cell? ⟨w.heap.size, 0, none⟩ = some (.int .i64 p) ∧ w'.cell? ⟨w.heap.size, 1, none⟩ = some (.int .i64 m) ∧ w'.cell? ⟨w.heap.size, 2, none⟩ = some (.int .i64 l) ∧ w.heap.size < w'.heap.size) (((try dsimp only at *); (try go_split_ands); (repeat' apply And.intro) <;> first | (with_reducible assumption) | (rw [qc _ _ (by with_reducible assumption)]; with_reducible assumption) | (with_reducible exact qz _ (by with_reducible assumption)) | (with_reducible exact RowI.below (by with_reducible assumption) (by with_reducible assumption)) | (simp [*, go_sem]; done) | omega | (refine RowI.drew ?_; simp [*]; done) | (repeat (first | (with_reducible assumption) | (with_reducible refine RowI.drew ?_) | (with_reducible refine RowI.drewN ?_ _) | (with_reducible refine RowI.alloc ?_ _) | (with_reducible refine RowI.below ?_ (by with_reducible assumption))); done) | (refine RowI.below ?_ (by assumption); first | (simp [*]; done) | (refine RowI.drew ?_; simp [*]; done))))
                    (first
                      | (go_at_call 71; go_call (nearest_c); rintro e w' ⟨rfl, nq, rfl⟩)
                      | (go_at_call 70; go_call (implPowerNeeded_c _ _ _ _ _ _); rintro e w' ⟨rfl, hb⟩; obtain ⟨qc, qf, qz, qs⟩ := bfacts hb; (try simp only [World.size_alloc, World.size_setCell, World.size_drew, World.heap_drewN] at qs)))
                | fail
              all_goals
                go_wp2
                go_roundw
                case rel => exact ⟨q, k + 1, by omega, by go_num, Lib.hid (HN.out.symm.trans HK.out), hBr.trans (Below.mono (by (repeat' (first | (with_reducible exact Below.refl _ _) | (with_reducible assumption) | (with_reducible refine Below.alloc ?_ ?_ _) | (with_reducible refine Below.drew ?_) | (with_reducible refine bdrewN ?_ _) | (with_reducible refine Below.setCell ?_ ?_ _) | (with_reducible refine bthen (by assumption) ?_ ?_) | go_size))) hsr)⟩
                case measure => simp [intOf]; omega
            · have HN := Lib.hid (gearI_hit (n := q) hh)
              have hz : ((fPower p m l (divR (1000 * f) (nth xs k)) (divR (v * nth xs k) 1000)).2 == 0) = true := (fPower_ok HOK.out).trans hh
              clear hh
              go_wp2
              first
                | go_region_held3 (fun w' => w'.cell? ⟨w.heap.size, 0, none⟩ = some (.int .i64 p) ∧ w'.cell? ⟨w.heap.size, 1, none⟩ = some (.int .i64 m) ∧ w'.cell? ⟨w.heap.size, 2, none⟩ = some (.int .i64 l) ∧ w.heap.size < w'.heap.size) (((try dsimp only at *); (try go_split_ands); (repeat' apply And.intro) <;> first | (with_reducible assumption) | (rw [qc _ _ (by with_reducible assumption)]; with_reducible assumption) | (with_reducible exact qz _ (by with_reducible assumption)) | (with_reducible exact RowI.below (by with_reducible assumption) (by with_reducible assumption)) | (simp [*, go_sem]; done) | omega | (refine RowI.drew ?_; simp [*]; done) | (repeat (first | (with_reducible assumption) | (with_reducible refine RowI.drew ?_) | (with_reducible refine RowI.drewN ?_ _) | (with_reducible refine RowI.alloc ?_ _) | (with_reducible refine RowI.below ?_ (by with_reducible assumption))); done) | (refine RowI.below ?_ (by assumption); first | (simp [*]; done) | (refine RowI.drew ?_; simp [*]; done))))
                    (first
                      | (go_at_call 71; go_call (nearest_c); rintro e w' ⟨rfl, nq, rfl⟩)
                      | (go_at_call 70; go_call (implPowerNeeded_c _ _ _ _ _ _); rintro e w' ⟨rfl, hb⟩; obtain ⟨qc, qf, qz, qs⟩ := bfacts hb; (try simp only [World.size_alloc, World.size_setCell, World.size_drew, World.heap_drewN] at qs)))
                | fail
              all_goals
                go_wp2
                go_returns
                exact ⟨by (rw [HF2.out, ← HK.out, HN.out]) <;> rfl, kBr.trans ((show Below wr.heap.size wr _ from by (repeat' (first | (with_reducible exact Below.refl _ _) | (with_reducible assumption) | (with_reducible refine Below.alloc ?_ ?_ _) | (with_reducible refine Below.drew ?_) | (with_reducible refine bdrewN ?_ _) | (with_reducible refine Below.setCell ?_ ?_ _) | (with_reducible refine bthen (by assumption) ?_ ?_) | go_size))).mono (by omega))⟩
          · obtain rfl : q = 0 := by omega
            go_wp2
            go_returns
            exact ⟨by (rw [HF2.out, ← HK.out]) <;> rfl, kBr⟩
      all_goals
        have HF2 := Lib.hid HF.out
        rw [show risesB xs 100 10000 = _ from hq, hok] at HF2
        clear HF
        go_wp2_with
          (first
            | (go_at_call 53; go_call (motored_c _ _ _ _ _); rintro e w' ⟨rfl, hb⟩; obtain ⟨qc, qf, qz, qs⟩ := bfacts hb; (try simp only [World.size_alloc, World.size_setCell, World.size_drew, World.heap_drewN] at qs)))
        go_returns
        refine ⟨by (rw [HF2.out]) <;> simp, ?_⟩
        repeat' (first
          | (with_reducible exact Below.refl _ _)
          | (with_reducible assumption)
          | (with_reducible refine Below.alloc ?_ ?_ _)
          | (with_reducible refine Below.drew ?_)
          | (with_reducible refine bdrewN ?_ _)
          | (with_reducible refine Below.setCell ?_ ?_ _)
          | (with_reducible refine bthen (by assumption) ?_ ?_)
          | go_size)
theorem implGearFor_c (p m l f v : Int) (A : Option Addr) (c : Nat) (xs : List Int) (hn : xs.length ≤ 1048576) (w : World) (hr : RowI w A xs) : Calls Try.prog 35 #[.agg #[.int .i64 p, .int .i64 m, .int .i64 l], .slice A xs.length c, .int .i64 f, .int .i64 v] w fun e w' => e = .returned (.tuple #[.int .i64 (fGear p m l f v xs).1, .int .i64 (fGear p m l f v xs).2]) ∧ Below w.heap.size w w' := by
  cases hb : gearB f v xs
  · exact implGear_bad p m l f v A c xs hn hb w hr
  · exact implGear_good p m l f v A c xs hn hb w hr
theorem walk_FnExactGearFor (p m l : Int) (A : Option Addr) (n c : Nat) (z : List Int) (f v : Int) (w : World) (_ : I64 p) (_ : I64 m) (_ : I64 l) (h : IntArg w A n z) (_ : I64 f) (_ : I64 v) : Calls Try.prog 10 #[.agg #[.int .i64 p, .int .i64 m, .int .i64 l], .slice A n c, .int .i64 f, .int .i64 v] w fun e w' => e = .returned (.bool true) ∧ Below w.heap.size w w' := by
  obtain ⟨rfl, hmax, hr, hz⟩ := h
  clear hz
  by_cases hn : z.length ≤ 1048576
  · go_enter Try.func10, Try.ntmps10
    go_wp2_with
      (first
        | (go_at_call 20; go_call (toMotor_c _ _ _ _); rintro e w' ⟨rfl, hb⟩; obtain ⟨qc, qf, qz, qs⟩ := bfacts hb; (try simp only [World.size_alloc, World.size_setCell, World.size_drew, World.heap_drewN] at qs); have za : w.heap.size < w'.heap.size := (by omega); have pa0 : w'.cell? ⟨w.heap.size, 0, none⟩ = some (.int .i64 p) := (by rw [qc _ _ (by first | assumption | (simp; done) | (simp; omega))]; first | assumption | (simp; done) | (simp [*]; done) | (simp [*, go_sem]; done)); have pa1 : w'.cell? ⟨w.heap.size, 1, none⟩ = some (.int .i64 m) := (by rw [qc _ _ (by first | assumption | (simp; done) | (simp; omega))]; first | assumption | (simp; done) | (simp [*]; done) | (simp [*, go_sem]; done)); have pa2 : w'.cell? ⟨w.heap.size, 2, none⟩ = some (.int .i64 l) := (by rw [qc _ _ (by first | assumption | (simp; done) | (simp; omega))]; first | assumption | (simp; done) | (simp [*]; done) | (simp [*, go_sem]; done)))
        | (go_at_call 23; (apply Calls.mono; focus ((apply (toInt64S_c _ _ z hn)); (all_goals (first | (with_reducible assumption) | omega | (repeat (first | (with_reducible assumption) | (with_reducible exact RowI.new _ _ _) | ((with_reducible refine RowI.new_at ?_); (simp; done)) | (with_reducible refine RowI.drewN ?_ _) | (with_reducible refine RowI.drew ?_) | (with_reducible refine RowI.alloc ?_ _) | (with_reducible refine RowI.below ?_ (by with_reducible assumption)) | (simp [*]; done))))); done)); rintro e w' ⟨rfl, rfl⟩)
        | (go_at_call 34; (apply Calls.mono; focus ((apply (specGearFor_c _ _ _ _ _ _ _ z hn)); (all_goals (first | (with_reducible assumption) | omega | (repeat (first | (with_reducible assumption) | (with_reducible exact RowI.new _ _ _) | ((with_reducible refine RowI.new_at ?_); (simp; done)) | (with_reducible refine RowI.drewN ?_ _) | (with_reducible refine RowI.drew ?_) | (with_reducible refine RowI.alloc ?_ _) | (with_reducible refine RowI.below ?_ (by with_reducible assumption)) | (simp [*]; done))))); done)); rintro e w' ⟨rfl, hb⟩; obtain ⟨qc, qf, qz, qs⟩ := bfacts hb; (try simp only [World.size_alloc, World.size_setCell, World.size_drew, World.heap_drewN] at qs); have za : w.heap.size < w'.heap.size := (by omega); have pa0 : w'.cell? ⟨w.heap.size, 0, none⟩ = some (.int .i64 p) := (by rw [qc _ _ (by first | assumption | (simp; done) | (simp; omega))]; first | assumption | (simp; done) | (simp [*]; done) | (simp [*, go_sem]; done)); have pa1 : w'.cell? ⟨w.heap.size, 1, none⟩ = some (.int .i64 m) := (by rw [qc _ _ (by first | assumption | (simp; done) | (simp; omega))]; first | assumption | (simp; done) | (simp [*]; done) | (simp [*, go_sem]; done)); have pa2 : w'.cell? ⟨w.heap.size, 2, none⟩ = some (.int .i64 l) := (by rw [qc _ _ (by first | assumption | (simp; done) | (simp; omega))]; first | assumption | (simp; done) | (simp [*]; done) | (simp [*, go_sem]; done)))
        | (go_at_call 35; (apply Calls.mono; focus ((apply (implGearFor_c _ _ _ _ _ _ _ z hn)); (all_goals (first | (with_reducible assumption) | omega | (repeat (first | (with_reducible assumption) | (with_reducible exact RowI.new _ _ _) | ((with_reducible refine RowI.new_at ?_); (simp; done)) | (with_reducible refine RowI.drewN ?_ _) | (with_reducible refine RowI.drew ?_) | (with_reducible refine RowI.alloc ?_ _) | (with_reducible refine RowI.below ?_ (by with_reducible assumption)) | (simp [*]; done))))); done)); rintro e w' ⟨rfl, hb⟩; obtain ⟨qc, qf, qz, qs⟩ := bfacts hb; (try simp only [World.size_alloc, World.size_setCell, World.size_drew, World.heap_drewN] at qs); have za : w.heap.size < w'.heap.size := (by omega); have pa0 : w'.cell? ⟨w.heap.size, 0, none⟩ = some (.int .i64 p) := (by rw [qc _ _ (by first | assumption | (simp; done) | (simp; omega))]; first | assumption | (simp; done) | (simp [*]; done) | (simp [*, go_sem]; done)); have pa1 : w'.cell? ⟨w.heap.size, 1, none⟩ = some (.int .i64 m) := (by rw [qc _ _ (by first | assumption | (simp; done) | (simp; omega))]; first | assumption | (simp; done) | (simp [*]; done) | (simp [*, go_sem]; done)); have pa2 : w'.cell? ⟨w.heap.size, 2, none⟩ = some (.int .i64 l) := (by rw [qc _ _ (by first | assumption | (simp; done) | (simp; omega))]; first | assumption | (simp; done) | (simp [*]; done) | (simp [*, go_sem]; done)))
        | (go_at_call 25; (apply Calls.mono; focus ((apply (eqInt64S_c _ _ _ _ z hn)); (all_goals (first | (with_reducible assumption) | omega | (repeat (first | (with_reducible assumption) | (with_reducible exact RowI.new _ _ _) | ((with_reducible refine RowI.new_at ?_); (simp; done)) | (with_reducible refine RowI.drewN ?_ _) | (with_reducible refine RowI.drew ?_) | (with_reducible refine RowI.alloc ?_ _) | (with_reducible refine RowI.below ?_ (by with_reducible assumption)) | (simp [*]; done))))); done)); rintro e w' ⟨rfl, nq, rfl⟩))
    go_returns
    refine ⟨by simp, ?_⟩
    repeat' (first
      | (with_reducible exact Below.refl _ _)
      | (with_reducible assumption)
      | (with_reducible refine Below.alloc ?_ ?_ _)
      | (with_reducible refine Below.drew ?_)
      | (with_reducible refine bdrewN ?_ _)
      | (with_reducible refine Below.setCell ?_ ?_ _)
      | (with_reducible refine bthen (by assumption) ?_ ?_)
      | go_size)
  · go_enter Try.func10, Try.ntmps10
    go_wp2
    go_returns
    refine ⟨by simp, ?_⟩
    repeat' (first
      | (with_reducible exact Below.refl _ _)
      | (with_reducible assumption)
      | (with_reducible refine Below.alloc ?_ ?_ _)
      | (with_reducible refine Below.drew ?_)
      | (with_reducible refine bdrewN ?_ _)
      | (with_reducible refine Below.setCell ?_ ?_ _)
      | (with_reducible refine bthen (by assumption) ?_ ?_)
      | go_size)
end Go.Proofs.Ytgnanppgbkngnaa
