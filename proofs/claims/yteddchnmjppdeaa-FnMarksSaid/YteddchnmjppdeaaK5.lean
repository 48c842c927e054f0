/- IdleLimits, the program's side and the law. -/
import Derived.Test.YteddchnmjppdeaaK4
namespace Go.Proofs.Yteddchnmjppdeaa
open Go.ChangeShapes Go.WideShapes Go.ChangeAt Go.RowKit
set_option linter.unusedVariables false
set_option linter.unusedSimpArgs false

set_option maxRecDepth 100000 in
set_option maxHeartbeats 4000000 in
theorem implIdleLimits_c (A : Option Addr) (n c : Nat) (z : List Int) (hz : z.length = n * 3) (hn : n ≤ 1048576) (w : World) (hr : RowI w A z) : Calls Try.prog 23 #[.slice A n c] w fun e w' => ∃ v, e = .returned (.tuple #[v, .int .i64 (fIdle z n).2]) ∧ OwnI 2 w' w.heap.size v (fIdle z n).1 ∧ Below w.heap.size w w' := by
  cases hh : limsB z n
  · have HF := Lib.hid (show fIdle z n = ([], 1) by simp [fIdle, hh])
    go_enter Try.func23, Try.ntmps23
    go_wp2_with (go_at_call 48; (refine (implValidLimits_c _ n _ z hz hn _ hr).mono ?_); rintro e w1 ⟨rfl, hb1⟩)
    go_returns
    exact ⟨_, by (rw [HF.out]) <;> rfl, by rw [HF.out]; exact OwnI.nil _ _ _, hb1⟩
  have HF := Lib.hid (show fIdle z n = (idleTo z n n, 0) by simp [fIdle, hh])
  have HH := Lib.hid (limsB_true hh)
  have n8 := HH.out.1
  go_enter Try.func23, Try.ntmps23
  go_wp2_with (go_at_call 48; (refine (implValidLimits_c _ n _ z hz hn _ hr).mono ?_); rintro e w1 ⟨rfl, hb1⟩; have hr1 := hr.below hb1; have z1 : w.heap.size ≤ w1.heap.size := hb1.size)
  go_loopw [4, 14] (fun v i wr => ∃ k : Nat, k ≤ n ∧ i = .int .i64 k ∧ Hid (OwnI 2 wr w1.heap.size v (idleTo z n k)) ∧ Below w1.heap.size w1 wr) (fun _ i _ => n - (intOf i).toNat)
  case atStart => exact ⟨0, by omega, rfl, Lib.hid (OwnI.nil _ _ _), Below.refl _ _⟩
  case round =>
    obtain ⟨k, hk, rfl, HO, hBr⟩ := hrel
    have hsr := hBr.size
    have hkl := idleTo_len z n k
    by_cases hlt : k < n
    · have i1 : (k : Int) < n := by omega
      have hrk := hr1.below hBr
      obtain ⟨b, off, rfl, hbb, d1, d2, d3⟩ := hrk.tri hz hlt
      obtain ⟨wo, rfl⟩ : ∃ wo : World, wo = wr := ⟨_, rfl⟩
      have k0 : (wo.alloc (.cells #[.int .i64 (tA z k), .int .i64 (tB z k), .int .i64 (tC z k)] 48)).cell? ⟨wo.heap.size, 0, none⟩ = some (.int .i64 (tA z k)) := by simp
      have k1 : (wo.alloc (.cells #[.int .i64 (tA z k), .int .i64 (tB z k), .int .i64 (tC z k)] 48)).cell? ⟨wo.heap.size, 1, none⟩ = some (.int .i64 (tB z k)) := by simp
      have k2 : (wo.alloc (.cells #[.int .i64 (tA z k), .int .i64 (tB z k), .int .i64 (tC z k)] 48)).cell? ⟨wo.heap.size, 2, none⟩ = some (.int .i64 (tC z k)) := by simp
      have hOW := HO.out.alloc (.cells #[.int .i64 (tA z k), .int .i64 (tB z k), .int .i64 (tC z k)] 48)
      have hrW := hrk.alloc (.cells #[.int .i64 (tA z k), .int .i64 (tB z k), .int .i64 (tC z k)] 48)
      have hBW := hBr.alloc (o := .cells #[.int .i64 (tA z k), .int .i64 (tB z k), .int .i64 (tC z k)] 48) (by omega)
      have hsW : (wo.alloc (.cells #[.int .i64 (tA z k), .int .i64 (tB z k), .int .i64 (tC z k)] 48)).heap.size = wo.heap.size + 1 := by simp
      go_wp2
      generalize (wo.alloc (.cells #[.int .i64 (tA z k), .int .i64 (tB z k), .int .i64 (tC z k)] 48)) = W at k0 k1 k2 hOW hrW hBW hsW ⊢
      have HOW := Lib.hid hOW
      clear hOW hrk HO d1 d2 d3 hbb
      go_loopw [4, 21] (fun v i wr => ∃ j : Nat, j ≤ n ∧ i = .int .i64 j ∧ Hid (∀ t, t < j → betAt z k t = false) ∧ Hid (OwnI 2 wr w1.heap.size v (idleTo z n k)) ∧ Below W.heap.size W wr) (fun _ i _ => n - (intOf i).toNat)
      case atStart => exact ⟨0, by omega, rfl, Lib.hid (fun t ht => by omega), HOW, Below.refl _ _⟩
      case round =>
        obtain ⟨j, hj1, rfl, HP, HOi, hBi⟩ := hrel
        have hsi := hBi.size
        have g0 := (hBi.cell (p := ⟨wo.heap.size, 0, none⟩) (show wo.heap.size < W.heap.size by omega)).trans k0
        have g1 := (hBi.cell (p := ⟨wo.heap.size, 1, none⟩) (show wo.heap.size < W.heap.size by omega)).trans k1
        have g2 := (hBi.cell (p := ⟨wo.heap.size, 2, none⟩) (show wo.heap.size < W.heap.size by omega)).trans k2
        have hBw : Below w1.heap.size w1 wr := hBW.trans (hBi.mono (by omega))
        have gl : wo.heap.size < wr.heap.size := by omega
        by_cases hjn : j < n
        · have j1 : (j : Int) < n := by omega
          obtain ⟨b', off', e', hbb', c1, c2, c3⟩ := (hrW.below hBi).tri hz hjn
          simp only [Option.some.injEq, Addr.mk.injEq, and_true] at e'
          obtain ⟨rfl, rfl⟩ := e'
          by_cases hjk : j = k
          · subst hjk
            have q1 : ((j : Int) != (j : Int)) = false := by simp
            have HN : Hid (∀ t, t < j + 1 → betAt z j t = false) := Lib.hid (fun t ht => by
              rcases Nat.lt_or_ge t j with h1 | h1
              · exact HP.out t h1
              · obtain rfl : t = j := by omega
                simp [betAt])
            go_wp2
            go_roundw
            case rel => exact ⟨j + 1, by omega, by go_num, HN, Lib.hid (HOi.out.alloc _), hBi.alloc (by omega) _⟩
            case measure => simp [intOf]; omega
          · have q1 : ((j : Int) != (k : Int)) = true := by simp; omega
            have HB := Lib.hid (show betI (tA z j) (tB z j) (tC z j) (tA z k) (tB z k) (tC z k) (decide (j < k)) = betAt z k j by simp [betAt, hjk])
            cases hp : betAt z k j
            · rw [hp] at HB
              have HN : Hid (∀ t, t < j + 1 → betAt z k t = false) := Lib.hid (fun t ht => by
                rcases Nat.lt_or_ge t j with h1 | h1
                · exact HP.out t h1
                · obtain rfl : t = j := by omega
                  exact hp)
              go_wp2_with (go_at_call 52; ((refine (isBetter_c _ _ _ _ _ _ _ _).mono ?_); rw [HB.out]; rintro e wc ⟨rfl, hc⟩; have HO1 := Lib.hid ((HOi.out.alloc _).below hc); have hsc := hc.size; (try simp only [World.size_alloc] at hsc); have hcc : Below w1.heap.size wr wc := ((Below.refl _ _).alloc (by omega) _).trans (hc.mono (by simp; omega)); have hci : Below W.heap.size wr wc := ((Below.refl _ _).alloc (by omega) _).trans (hc.mono (by simp; omega))))
              go_roundw
              case rel => exact ⟨j + 1, by omega, by go_num, HN, HO1, hBi.trans hci⟩
              case measure => simp [intOf]; omega
            · rw [hp] at HB
              have HN := Lib.hid (idleTo_in (show idleB z n k = true from anyN_hit hjn hp))
              go_wp2_with (first
                | (at_builtin; refine wpList_push rfl _ _ 22 rfl Try.underlying22 int64_info (k : Int) rfl HO1.out rfl rfl (by omega) (by omega) ?_; intro v' w3 hO' hB'; have HO' := Lib.hid hO'; clear hO')
                | (go_at_call 52; ((refine (isBetter_c _ _ _ _ _ _ _ _).mono ?_); rw [HB.out]; rintro e wc ⟨rfl, hc⟩; have HO1 := Lib.hid ((HOi.out.alloc _).below hc); have hsc := hc.size; (try simp only [World.size_alloc] at hsc); have hcc : Below w1.heap.size wr wc := ((Below.refl _ _).alloc (by omega) _).trans (hc.mono (by simp; omega)); have hci : Below W.heap.size wr wc := ((Below.refl _ _).alloc (by omega) _).trans (hc.mono (by simp; omega)))))
              go_roundw
              case rel => exact ⟨k + 1, by omega, by go_num, Lib.hid (by rw [HN.out]; exact HO'.out), (hBw.trans hcc).trans hB'⟩
              case measure => simp [intOf]; omega
        · obtain rfl : j = n := by omega
          have HN := Lib.hid (idleTo_out (show idleB z j k = false from anyN_no HP.out))
          go_wp2
          go_roundw
          case rel => exact ⟨k + 1, by omega, by go_num, Lib.hid (by rw [HN.out]; exact HOi.out), hBw⟩
          case measure => simp [intOf]; omega
    · obtain rfl : k = n := by omega
      go_wp2
      go_returns
      exact ⟨_, by (rw [HF.out]) <;> rfl, by rw [HF.out]; exact HO.out.mono (by omega), hb1.trans (hBr.mono (by omega))⟩
end Go.Proofs.Yteddchnmjppdeaa
