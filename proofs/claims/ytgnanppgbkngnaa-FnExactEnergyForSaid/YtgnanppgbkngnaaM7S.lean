/- Energy: the reference. -/
import Derived.Test.YtgnanppgbkngnaaM6
namespace Go.Proofs.Ytgnanppgbkngnaa
open Go.ChangeShapes Go.WideShapes Go.ChangeAt Go.RowKit
set_option linter.unusedVariables false
set_option linter.unusedSimpArgs false

theorem l10Need_v {p m l f v : Int} {g : Bool} (hc : canB p m l f v = g) (hp : 1000 ≤ p) (hl0 : 0 ≤ l) (hl1 : l ≤ 500) (hf : inB f (-1000000) 1000000 = true) (hv : inB v 0 20000 = true) (b : Nat) (w : World) (h0 : w.cell? ⟨b, 0, none⟩ = some (.int .i64 p)) (h1 : w.cell? ⟨b, 1, none⟩ = some (.int .i64 m)) (h2 : w.cell? ⟨b, 2, none⟩ = some (.int .i64 l)) : Calls Try.prog 52 #[.pointer (some ⟨b, 0, none⟩), .int .i64 f, .int .i64 v] w fun e w' => e = .returned (.tuple #[.int .i64 (needI m l f v), .bool g]) ∧ ∃ n, w' = w.drewN n := by
  subst hc
  exact l10Need_c p m l f v hp hl0 hl1 hf hv b w h0 h1 h2
set_option maxHeartbeats 1000000 in
theorem l10Energy_c (p m l v s : Int) (A : Option Addr) (c : Nat) (xs : List Int) (hn : xs.length ≤ 1048576) (bk : Nat) (w : World) (hr : RowI w A xs) (h0 : w.cell? ⟨bk, 0, none⟩ = some (.int .i64 p)) (h1 : w.cell? ⟨bk, 1, none⟩ = some (.int .i64 m)) (h2 : w.cell? ⟨bk, 2, none⟩ = some (.int .i64 l)) : Calls Try.prog 65 #[.pointer (some ⟨bk, 0, none⟩), .slice A xs.length c, .int .i64 v, .int .i64 s] w fun e w' => e = .returned (.tuple #[.int .i64 (fEnergy p m l v s xs).1, .int .i64 (fEnergy p m l v s xs).2.1, .int .i64 (fEnergy p m l v s xs).2.2]) ∧ ∃ n, w' = w.drewN n := by
  cases hok : motorOk p m l <;> cases hf : foB xs <;> cases hv : inB v 0 20000 <;> cases hs : inB s 0 100000
  case true.true.true.true =>
    obtain ⟨⟨p0, p1⟩, ⟨m0, m1⟩, ⟨l0, l1⟩⟩ := motorOk_true hok
    obtain ⟨hlen, hall⟩ := foB_true hf
    obtain ⟨s0, s1⟩ := inB_true hs
    have HF := Lib.hid (show fEnergy p m l v s xs = if allCan p m l v xs then (needTo l v xs xs.length * s, backTo l v xs xs.length * s, 0) else (0, 0, 6) by simp only [fEnergy, hok, hf, hv, hs, Bool.and_self, if_true])
    have HS := Lib.hid (fun k hk hc => sums_bd (p := p) (m := m) (l := l) (v := v) (xs := xs) p1 l0 l1 hv hall k hk hc)
    have HALL := Lib.hid hall
    clear hall
    go_enter Try.func65, Try.ntmps65
    go_wp2_with
      (first
        | (go_at_call 50; go_call (l10Ok_c p m l); rintro e w' ⟨rfl, rfl⟩)
        | (go_at_call 58; (apply Calls.mono; focus ((apply (l10Forces_v hf _ _ hn)); (all_goals (first | (with_reducible assumption) | omega | (repeat (first | (with_reducible assumption) | (with_reducible exact RowI.new _ _ _) | ((with_reducible refine RowI.new_at ?_); (simp; done)) | (with_reducible refine RowI.drewN ?_ _) | (with_reducible refine RowI.drew ?_) | (with_reducible refine RowI.alloc ?_ _) | (with_reducible refine RowI.below ?_ (by with_reducible assumption)))))); done)); rintro e w' ⟨rfl, rfl⟩)
        | (go_at_call 67; go_call (l10Speed_v hv _); rintro e w' ⟨rfl, rfl⟩)
        | (go_at_call 44; go_call (l00In_v hs _); rintro e w' ⟨rfl, rfl⟩))
    have HV := Lib.hid hv
    clear hok hf hs hv
    go_loopw [11, 12, 13] (fun x y i wr => ∃ k : Nat, k ≤ xs.length ∧ i = .int .i64 k ∧ x = .int .i64 (needTo l v xs k) ∧ y = .int .i64 (backTo l v xs k) ∧ Hid (∀ j, j < k → canB p m l (nth xs j) v = true) ∧ ∃ n, wr = w.drewN n) (fun _ _ i _ => xs.length - (intOf i).toNat)
    case atStart => exact ⟨0, by omega, rfl, rfl, rfl, Lib.hid (fun j hj => by omega), (by first | exact ⟨_, rfl⟩ | exact ⟨_, World.drewN_drewN _ _ _⟩ | exact ⟨0, rfl⟩)⟩
    case round =>
      obtain ⟨k, hk, rfl, rfl, rfl, HC, n, rfl⟩ := hrel
      obtain ⟨⟨n0, n1⟩, b0, b1⟩ := HS.out k hk HC.out
      by_cases hlt : k < xs.length
      · obtain ⟨b, off, rfl, hbb, hc⟩ := hr.at_ hlt
        obtain ⟨a0, a1⟩ := HALL.out k hlt
        have hfk : inB (nth xs k) (-1000000) 1000000 = true := inB_of a0 a1
        have j1 : (k : Int) < xs.length := by omega
        cases hcn : canB p m l (nth xs k) v
        · have HA := Lib.hid (show allCan p m l v xs = false from allCan_bad hlt hcn)
          go_wp2_with
            (first
              | (go_at_call 52; go_call (l10Need_v hcn p0 l0 l1 hfk HV.out); rintro e w' ⟨rfl, nq, rfl⟩))
          go_ret3
          exact ⟨by rw [HF.out, HA.out]; rfl, (by first | exact ⟨_, rfl⟩ | exact ⟨_, World.drewN_drewN _ _ _⟩ | exact ⟨0, rfl⟩)⟩
        · obtain ⟨q0, q1⟩ := powerI_bd p1 l0 l1 hfk HV.out hcn
          have hne := canB_need hcn
          have HN := Lib.hid (show ∀ j, j < k + 1 → canB p m l (nth xs j) v = true from fun j hj => by
            rcases Nat.lt_or_ge j k with h1 | h1
            · exact HC.out j h1
            · obtain rfl : j = k := by omega
              exact hcn)
          have HT := Lib.hid (show needTo l v xs (k + 1) = needTo l v xs k + max 0 (powerI l (nth xs k) v) from rfl)
          have HT2 := Lib.hid (show backTo l v xs (k + 1) = backTo l v xs k + max 0 (-powerI l (nth xs k) v) from rfl)
          go_wp2_with
            (first
              | (go_at_call 52; go_call (l10Need_v hcn p0 l0 l1 hfk HV.out); rintro e w' ⟨rfl, nq, rfl⟩)
              | (go_at_call 63; go_call (l00Max_c _ _ _); rintro e w' ⟨rfl, rfl⟩))
          go_roundw
          case rel => exact ⟨k + 1, by omega, by go_num, by rw [HT.out], by rw [HT2.out], HN, (by first | exact ⟨_, rfl⟩ | exact ⟨_, World.drewN_drewN _ _ _⟩ | exact ⟨0, rfl⟩)⟩
          case measure => simp [intOf]; omega
      · obtain rfl : k = xs.length := by omega
        have HA := Lib.hid (show allCan p m l v xs = true from allCan_good HC.out)
        obtain ⟨t0, t1⟩ := mul_bd n0 (show needTo l v xs xs.length ≤ 600000000 by omega) s0 s1
        obtain ⟨t2, t3⟩ := mul_bd b0 (show backTo l v xs xs.length ≤ 1200000000 by omega) s0 s1
        go_wp2
        go_ret3
        exact ⟨by rw [HF.out, HA.out]; rfl, (by first | exact ⟨_, rfl⟩ | exact ⟨_, World.drewN_drewN _ _ _⟩ | exact ⟨0, rfl⟩)⟩
  all_goals
    go_enter Try.func65, Try.ntmps65
    go_wp2_with
      (first
        | (go_at_call 50; go_call (l10Ok_c p m l); rintro e w' ⟨rfl, rfl⟩)
        | (go_at_call 58; (apply Calls.mono; focus ((apply (l10Forces_v hf _ _ hn)); (all_goals (first | (with_reducible assumption) | omega | (repeat (first | (with_reducible assumption) | (with_reducible exact RowI.new _ _ _) | ((with_reducible refine RowI.new_at ?_); (simp; done)) | (with_reducible refine RowI.drewN ?_ _) | (with_reducible refine RowI.drew ?_) | (with_reducible refine RowI.alloc ?_ _) | (with_reducible refine RowI.below ?_ (by with_reducible assumption)))))); done)); rintro e w' ⟨rfl, rfl⟩)
        | (go_at_call 67; go_call (l10Speed_v hv _); rintro e w' ⟨rfl, rfl⟩)
        | (go_at_call 44; go_call (l00In_v hs _); rintro e w' ⟨rfl, rfl⟩))
    go_ret3
    exact ⟨by simp [fEnergy, hok, hf, hv, hs], (by first | exact ⟨_, rfl⟩ | exact ⟨_, World.drewN_drewN _ _ _⟩ | exact ⟨0, rfl⟩)⟩
end Go.Proofs.Ytgnanppgbkngnaa
