/- Contracts of the program's functions on tracks and forces. -/
import Derived.Test.YtmkfkpfblnblgaaX2
namespace Go.Proofs.Ytmkfkpfblnblgaa
open Go.ChangeShapes Go.WideShapes Go.ChangeAt Go.RowKit
set_option linter.unusedVariables false
set_option linter.unusedSimpArgs false

theorem wrap_in {n : Int} (h0 : -9223372036854775808 ≤ n) (h1 : n ≤ 9223372036854775807) : IntKind.i64.wrap n = n := IntWalk.i64_in _ ⟨h0, h1⟩
set_option maxHeartbeats 1000000 in
theorem gradeAt_c (A : Option Addr) (n c : Nat) (z : List Int) (f u x : Int) (hz : z.length = n * 2) (hn0 : 1 ≤ n) (hn : n ≤ 12) (hs : secsB z n = true) (x0 : 0 ≤ x) (x1 : x ≤ 3000000) (w : World) (hr : RowI w A z) : Calls Try.prog 79 #[.agg #[.slice A n c, .int .i64 f, .int .i64 u], .int .i64 x] w fun e w' => e = .returned (.int .i64 (grdI z n x)) ∧ Below w.heap.size w w' := by
  have hlt := secAt_lt z x hn0
  obtain ⟨b, off, rfl, hb0, c1, c2⟩ := hr.sec hz hlt
  have hg : grdI z n x = secG z (secAt z n x) := rfl
  rw [hg]
  clear hg
  have i1 : (secAt z n x : Int) < n := by omega
  go_enter Try.func79, Try.ntmps79
  go_wp2
  go_region_held3 (fun w' => w'.cell? ⟨w.heap.size, 0, none⟩ = some (.slice (some ⟨b, off, none⟩) n c) ∧ w'.cell? ⟨w.heap.size, 1, none⟩ = some (.int .i64 f) ∧ w'.cell? ⟨w.heap.size, 2, none⟩ = some (.int .i64 u) ∧ w'.cell? ⟨b, off + secAt z n x * 2 + 1, none⟩ = some (.int .i64 (secG z (secAt z n x)))) (simp [*, go_sem])
    (first
      | (go_at_call 88; (apply Calls.mono; focus ((apply (sectionAt_c _ _ _ z _ _ _ hz hn0 hn hs x0 x1)); (all_goals (first | (with_reducible assumption) | omega | (repeat (first | (with_reducible assumption) | (with_reducible exact RowI.new _ _ _) | ((with_reducible refine RowI.new_at ?_); (simp; done)) | (with_reducible refine RowI.drewN ?_ _) | (with_reducible refine RowI.drew ?_) | (with_reducible refine RowI.alloc ?_ _) | (with_reducible refine RowI.below ?_ (by with_reducible assumption)) | (simp [*]; done))))); done)); rintro e w' ⟨rfl, hb⟩; obtain ⟨qc, qf, qz, qs⟩ := bfacts hb; (try simp only [World.size_alloc, World.size_setCell, World.size_drew, World.heap_drewN] at qs)))
  go_wp2
  go_ret
  refine ⟨by first | rfl | simp, ?_⟩
  repeat' (first
    | (with_reducible exact Below.refl _ _)
    | (with_reducible assumption)
    | (with_reducible refine Below.alloc ?_ ?_ _)
    | (with_reducible refine Below.drew ?_)
    | (with_reducible refine bdrewN ?_ _)
    | (with_reducible refine Below.setCell ?_ ?_ _)
    | (with_reducible refine bthen (by assumption) ?_ ?_)
    | go_size)
theorem within_v {n lo hi : Int} {b : Bool} (h : inB n lo hi = b) (w : World) : Calls Try.prog 77 #[.int .i64 n, .int .i64 lo, .int .i64 hi] w fun e w' => e = .returned (.bool b) ∧ w = w' := by
  subst h
  exact within_c n lo hi w
set_option maxHeartbeats 8000000 in
theorem validTrack_c (A : Option Addr) (n c : Nat) (z : List Int) (f u : Int) (hz : z.length = n * 2) (hn : n ≤ 1048576) (w : World) (hr : RowI w A z) : Calls Try.prog 84 #[.agg #[.slice A n c, .int .i64 f, .int .i64 u]] w fun e w' => e = .returned (.bool (trackB z n f u)) ∧ Below w.heap.size w w' := by
  by_cases n0 : 1 ≤ n
  rotate_left
  · have HF := Lib.hid (show trackB z n f u = false by simp [trackB, n0])
    have n0' : (n : Int) < 1 := by omega
    go_enter Try.func84, Try.ntmps84
    go_wp2
    go_ret
    refine ⟨by rw [HF.out]; rfl, ?_⟩
    repeat' (first
      | (with_reducible exact Below.refl _ _)
      | (with_reducible assumption)
      | (with_reducible refine Below.alloc ?_ ?_ _)
      | (with_reducible refine Below.drew ?_)
      | (with_reducible refine bdrewN ?_ _)
      | (with_reducible refine Below.setCell ?_ ?_ _)
      | (with_reducible refine bthen (by assumption) ?_ ?_)
      | go_size)
  by_cases n1 : n ≤ 12
  rotate_left
  · have HF := Lib.hid (show trackB z n f u = false by simp [trackB, n1])
    have n0' : (1 : Int) ≤ n := by omega
    have n1' : (12 : Int) < n := by omega
    go_enter Try.func84, Try.ntmps84
    go_wp2
    go_ret
    refine ⟨by rw [HF.out]; rfl, ?_⟩
    repeat' (first
      | (with_reducible exact Below.refl _ _)
      | (with_reducible assumption)
      | (with_reducible refine Below.alloc ?_ ?_ _)
      | (with_reducible refine Below.drew ?_)
      | (with_reducible refine bdrewN ?_ _)
      | (with_reducible refine Below.setCell ?_ ?_ _)
      | (with_reducible refine bthen (by assumption) ?_ ?_)
      | go_size)
  have n0' : (1 : Int) ≤ n := by omega
  have n1' : (n : Int) ≤ 12 := by omega
  have hr1 := hr.alloc (.cells #[.slice A n c, .int .i64 f, .int .i64 u] 30)
  have hB1 : Below w.heap.size w (w.alloc (.cells #[.slice A n c, .int .i64 f, .int .i64 u] 30)) := (Below.refl _ _).alloc (Nat.le_refl _) _
  have kc : (w.alloc (.cells #[.slice A n c, .int .i64 f, .int .i64 u] 30)).cell? ⟨w.heap.size, 0, none⟩ = some (.slice A n c) := by simp
  have kf : (w.alloc (.cells #[.slice A n c, .int .i64 f, .int .i64 u] 30)).cell? ⟨w.heap.size, 1, none⟩ = some (.int .i64 f) := by simp
  have ku : (w.alloc (.cells #[.slice A n c, .int .i64 f, .int .i64 u] 30)).cell? ⟨w.heap.size, 2, none⟩ = some (.int .i64 u) := by simp
  have kl : w.heap.size < (w.alloc (.cells #[.slice A n c, .int .i64 f, .int .i64 u] 30)).heap.size := by simp
  go_enter Try.func84, Try.ntmps84
  go_wp2
  generalize w.alloc (.cells #[.slice A n c, .int .i64 f, .int .i64 u] 30) = W at *
  go_loopw [18] (fun i wr => ∃ k : Nat, k ≤ n ∧ i = .int .i64 k ∧ Hid (∀ j, j < k → secB z j = true) ∧ Below W.heap.size W wr) (fun i _ => n - (intOf i).toNat)
  case atStart => exact ⟨0, by omega, rfl, Lib.hid (fun j hj => by omega), Below.refl _ _⟩
  case round =>
    obtain ⟨k, hk, rfl, HK, hBr⟩ := hrel
    by_cases hlt : k < n
    · obtain ⟨b, off, rfl, hbb, c1, c2⟩ := (hr1.below hBr).sec hz hlt
      have i1 : (k : Int) < n := by omega
      cases hq : secB z k
      · have HF := Lib.hid (show trackB z n f u = false by simp [trackB, secsB_bad hlt hq])
        unfold secB at hq
        cases g1 : inB (secL z k) 1 3000000 <;> cases g2 : inB (secG z k) 0 900
        case true.true => simp [g1, g2] at hq
        all_goals
          clear hq
          go_wp2_with
            (first
              | (go_at_call 77; go_call (within_c _ _ _ _); rintro e w' ⟨rfl, rfl⟩))
          go_ret
          exact ⟨by rw [HF.out]; rfl, hB1.trans ((hBr.alloc hBr.size _).mono hB1.size)⟩
      · have HN := Lib.hid (show ∀ j, j < k + 1 → secB z j = true from fun j hj => by
          rcases Nat.lt_or_ge j k with h1 | h1
          · exact HK.out j h1
          · obtain rfl : j = k := by omega
            exact hq)
        unfold secB at hq
        obtain ⟨g1, g2⟩ := Bool.and_eq_true_iff.1 hq
        clear hq
        go_wp2_with
          (first
            | (go_at_call 77; go_call (within_c _ _ _ _); rintro e w' ⟨rfl, rfl⟩))
        go_roundw
        case rel => exact ⟨k + 1, by omega, by go_num, HN, (hBr.alloc hBr.size _)⟩
        case measure => simp [intOf]; omega
    · obtain rfl : k = n := by omega
      have hs : secsB z k = true := secsB_good HK.out
      have kc' := (hBr.cell (p := ⟨w.heap.size, 0, none⟩) kl).trans kc
      have kf' := (hBr.cell (p := ⟨w.heap.size, 1, none⟩) kl).trans kf
      have ku' := (hBr.cell (p := ⟨w.heap.size, 2, none⟩) kl).trans ku
      have hl' : w.heap.size < wr.heap.size := Nat.lt_of_lt_of_le kl hBr.size
      have hr2 := hr1.below hBr
      have hBw : Below w.heap.size w wr := hB1.trans (hBr.mono hB1.size)
      clear kc kf ku hr1 hr hB1 hBr kl
      cases g1 : decide (lenTo z k ≤ 3000000)
      · have HF := Lib.hid (show trackB z k f u = false by simp [trackB, g1])
        go_wp2
        refine wp_region_held_drew (S := fun w' => w'.cell? ⟨w.heap.size, 0, none⟩ = some (.slice (A) k c) ∧ w'.cell? ⟨w.heap.size, 1, none⟩ = some (.int .i64 (f)) ∧ w'.cell? ⟨w.heap.size, 2, none⟩ = some (.int .i64 (u)) ∧ w.heap.size < w'.heap.size ∧ RowI w' (A) z) (by kernel_rfl) ?_ (fun hHeld => ?_)
        · (((try dsimp only at *); (try go_split_ands); (repeat' apply And.intro) <;> first | (with_reducible assumption) | (rw [qc _ _ (by with_reducible assumption)]; with_reducible assumption) | (with_reducible exact qz _ (by with_reducible assumption)) | (with_reducible exact RowI.below (by with_reducible assumption) (by with_reducible assumption)) | (simp [*, go_sem]; done) | omega | (refine RowI.drew ?_; simp [*]; done) | ((repeat (first | (with_reducible assumption) | (with_reducible refine RowI.drew ?_) | (with_reducible refine RowI.drewN ?_ _) | (with_reducible refine RowI.alloc ?_ _) | (with_reducible refine RowI.below ?_ (by with_reducible assumption)))); done) | (refine RowI.below ?_ (by assumption); first | (simp [*]; done) | (refine RowI.drew ?_; simp [*]; done))))
        refine wpAnyH_take (i := 0) (v := ?_) rfl (by kernel_rfl) (by kernel_rfl) (by kernel_rfl) (fun _ _ _ h => h) (Or.inl ⟨by rfl, ?_⟩) (by assumption) ?_
        rotate_left
        · (intro w hSw; (try dsimp only at hSw); go_simp; (try with_reducible rfl))
        (try simp only [Act.put, List.getElem_toArray, List.getElem_cons_zero, List.getElem_cons_succ, List.setIfInBounds_toArray, List.set_cons_zero, List.set_cons_succ])
        refine wpAnyH_ready (rs := [1]) (by kernel_rfl) (by simp) ?_
        refine AllReadyH.cons rfl (fun K hK => ?_) AllReadyH.nil
        go_simp
        (first
          | (go_at_call 59; (apply Calls.mono; focus ((apply (length_c _ _ _ z _ _ hz n1 hs)); (all_goals (first | (with_reducible assumption) | omega | (repeat (first | (with_reducible assumption) | (with_reducible exact RowI.new _ _ _) | ((with_reducible refine RowI.new_at ?_); (simp; done)) | (with_reducible refine RowI.drewN ?_ _) | (with_reducible refine RowI.drew ?_) | (with_reducible refine RowI.alloc ?_ _) | (with_reducible refine RowI.below ?_ (by with_reducible assumption)) | (simp [*]; done))))); done)); rintro e w' ⟨rfl, hb⟩; obtain ⟨qc, qf, qz, qs⟩ := bfacts hb; (try simp only [World.size_alloc, World.size_setCell, World.size_drew, World.heap_drewN] at qs)))
        (try go_wp2_with fail)
        refine hK.out _ _ ?_ (fun hHeld => ?_)
        · (((try dsimp only at *); (try go_split_ands); (repeat' apply And.intro) <;> first | (with_reducible assumption) | (rw [qc _ _ (by with_reducible assumption)]; with_reducible assumption) | (with_reducible exact qz _ (by with_reducible assumption)) | (with_reducible exact RowI.below (by with_reducible assumption) (by with_reducible assumption)) | (simp [*, go_sem]; done) | omega | (refine RowI.drew ?_; simp [*]; done) | ((repeat (first | (with_reducible assumption) | (with_reducible refine RowI.drew ?_) | (with_reducible refine RowI.drewN ?_ _) | (with_reducible refine RowI.alloc ?_ _) | (with_reducible refine RowI.below ?_ (by with_reducible assumption)))); done) | (refine RowI.below ?_ (by assumption); first | (simp [*]; done) | (refine RowI.drew ?_; simp [*]; done))))
        clear hK K
        (try simp only [Act.put, List.getElem_toArray, List.getElem_cons_zero, List.getElem_cons_succ, List.setIfInBounds_toArray, List.set_cons_zero, List.set_cons_succ])
        refine wpAnyH_take (i := 2) (v := ?_) rfl (by kernel_rfl) (by kernel_rfl) (by kernel_rfl) (fun _ _ _ h => h) (Or.inl ⟨by rfl, ?_⟩) (by assumption) ?_
        rotate_left
        · (intro w hSw; (try dsimp only at hSw); go_simp; (try with_reducible rfl))
        (try simp only [Act.put, List.getElem_toArray, List.getElem_cons_zero, List.getElem_cons_succ, List.setIfInBounds_toArray, List.set_cons_zero, List.set_cons_succ])
        refine wpAnyH_take (i := 3) (v := ?_) rfl (by kernel_rfl) (by kernel_rfl) (by kernel_rfl) (fun _ _ _ h => h) (Or.inl ⟨by rfl, ?_⟩) (by assumption) ?_
        rotate_left
        · (intro w hSw; (try dsimp only at hSw); go_simp; (try with_reducible rfl))
        (try simp only [Act.put, List.getElem_toArray, List.getElem_cons_zero, List.getElem_cons_succ, List.setIfInBounds_toArray, List.set_cons_zero, List.set_cons_succ])
        refine wpAnyH_take (i := 4) (v := undef) rfl (by kernel_rfl) (by kernel_rfl) (by kernel_rfl) (fun _ _ _ h => h) (Or.inr ⟨by first | kernel_rfl | rfl, rfl⟩) (by assumption) ?_
        (try simp only [Act.put, List.getElem_toArray, List.getElem_cons_zero, List.getElem_cons_succ, List.setIfInBounds_toArray, List.set_cons_zero, List.set_cons_succ])
        refine wpAnyH_take (i := 5) (v := undef) rfl (by kernel_rfl) (by kernel_rfl) (by kernel_rfl) (fun _ _ _ h => h) (Or.inr ⟨by first | kernel_rfl | rfl, rfl⟩) (by assumption) ?_
        (try simp only [Act.put, List.getElem_toArray, List.getElem_cons_zero, List.getElem_cons_succ, List.setIfInBounds_toArray, List.set_cons_zero, List.set_cons_succ])
        refine wpAnyH_take (i := 6) (v := undef) rfl (by kernel_rfl) (by kernel_rfl) (by kernel_rfl) (fun _ _ _ h => h) (Or.inr ⟨by first | kernel_rfl | rfl, rfl⟩) (by assumption) ?_
        (try simp only [Act.put, List.getElem_toArray, List.getElem_cons_zero, List.getElem_cons_succ, List.setIfInBounds_toArray, List.set_cons_zero, List.set_cons_succ])
        refine wpAnyH_take (i := 7) (v := undef) rfl (by kernel_rfl) (by kernel_rfl) (by kernel_rfl) (fun _ _ _ h => h) (Or.inr ⟨by first | kernel_rfl | rfl, rfl⟩) (by assumption) ?_
        (try simp only [Act.put, List.getElem_toArray, List.getElem_cons_zero, List.getElem_cons_succ, List.setIfInBounds_toArray, List.set_cons_zero, List.set_cons_succ])
        refine wpAnyH_take (i := 8) (v := undef) rfl (by kernel_rfl) (by kernel_rfl) (by kernel_rfl) (fun _ _ _ h => h) (Or.inr ⟨by first | kernel_rfl | rfl, rfl⟩) (by assumption) ?_
        (try simp only [Act.put, List.getElem_toArray, List.getElem_cons_zero, List.getElem_cons_succ, List.setIfInBounds_toArray, List.set_cons_zero, List.set_cons_succ])
        refine wpAnyH_take (i := 9) (v := ?_) rfl (by kernel_rfl) (by kernel_rfl) (by kernel_rfl) (fun _ _ _ h => h) (Or.inl ⟨by rfl, ?_⟩) (by assumption) ?_
        rotate_left
        · (intro w hSw; (try dsimp only at hSw); go_simp; (try with_reducible rfl))
        (try simp only [Act.put, List.getElem_toArray, List.getElem_cons_zero, List.getElem_cons_succ, List.setIfInBounds_toArray, List.set_cons_zero, List.set_cons_succ])
        refine wpAnyH_take (i := 10) (v := ?_) rfl (by kernel_rfl) (by kernel_rfl) (by kernel_rfl) (fun _ _ _ h => h) (Or.inl ⟨by rfl, ?_⟩) (by assumption) ?_
        rotate_left
        · (intro w hSw; (try dsimp only at hSw); go_simp; (try with_reducible rfl))
        (try simp only [Act.put, List.getElem_toArray, List.getElem_cons_zero, List.getElem_cons_succ, List.setIfInBounds_toArray, List.set_cons_zero, List.set_cons_succ])
        refine wpAnyH_take (i := 11) (v := undef) rfl (by kernel_rfl) (by kernel_rfl) (by kernel_rfl) (fun _ _ _ h => h) (Or.inr ⟨by first | kernel_rfl | rfl, rfl⟩) (by assumption) ?_
        (try simp only [Act.put, List.getElem_toArray, List.getElem_cons_zero, List.getElem_cons_succ, List.setIfInBounds_toArray, List.set_cons_zero, List.set_cons_succ])
        refine wpAnyH_take (i := 12) (v := undef) rfl (by kernel_rfl) (by kernel_rfl) (by kernel_rfl) (fun _ _ _ h => h) (Or.inr ⟨by first | kernel_rfl | rfl, rfl⟩) (by assumption) ?_
        (try simp only [Act.put, List.getElem_toArray, List.getElem_cons_zero, List.getElem_cons_succ, List.setIfInBounds_toArray, List.set_cons_zero, List.set_cons_succ])
        refine wpAnyH_take (i := 13) (v := undef) rfl (by kernel_rfl) (by kernel_rfl) (by kernel_rfl) (fun _ _ _ h => h) (Or.inr ⟨by first | kernel_rfl | rfl, rfl⟩) (by assumption) ?_
        (try simp only [Act.put, List.getElem_toArray, List.getElem_cons_zero, List.getElem_cons_succ, List.setIfInBounds_toArray, List.set_cons_zero, List.set_cons_succ])
        refine wpAnyH_take (i := 14) (v := undef) rfl (by kernel_rfl) (by kernel_rfl) (by kernel_rfl) (fun _ _ _ h => h) (Or.inr ⟨by first | kernel_rfl | rfl, rfl⟩) (by assumption) ?_
        (try simp only [Act.put, List.getElem_toArray, List.getElem_cons_zero, List.getElem_cons_succ, List.setIfInBounds_toArray, List.set_cons_zero, List.set_cons_succ])
        refine wpAnyH_take (i := 15) (v := undef) rfl (by kernel_rfl) (by kernel_rfl) (by kernel_rfl) (fun _ _ _ h => h) (Or.inr ⟨by first | kernel_rfl | rfl, rfl⟩) (by assumption) ?_
        (try simp only [Act.put, List.getElem_toArray, List.getElem_cons_zero, List.getElem_cons_succ, List.setIfInBounds_toArray, List.set_cons_zero, List.set_cons_succ])
        refine wpAnyH_take (i := 16) (v := undef) rfl (by kernel_rfl) (by kernel_rfl) (by kernel_rfl) (fun _ _ _ h => h) (Or.inr ⟨by first | kernel_rfl | rfl, rfl⟩) (by assumption) ?_
        (try simp only [Act.put, List.getElem_toArray, List.getElem_cons_zero, List.getElem_cons_succ, List.setIfInBounds_toArray, List.set_cons_zero, List.set_cons_succ])
        refine wpAnyH_take (i := 17) (v := undef) rfl (by kernel_rfl) (by kernel_rfl) (by kernel_rfl) (fun _ _ _ h => h) (Or.inr ⟨by first | kernel_rfl | rfl, rfl⟩) (by assumption) ?_
        (try simp only [Act.put, List.getElem_toArray, List.getElem_cons_zero, List.getElem_cons_succ, List.setIfInBounds_toArray, List.set_cons_zero, List.set_cons_succ])
        refine wpAnyH_take (i := 18) (v := ?_) rfl (by kernel_rfl) (by kernel_rfl) (by kernel_rfl) (fun _ _ _ h => h) (Or.inl ⟨by rfl, ?_⟩) (by assumption) ?_
        rotate_left
        · (intro w hSw; (try dsimp only at hSw); go_simp; (try with_reducible rfl))
        (try simp only [Act.put, List.getElem_toArray, List.getElem_cons_zero, List.getElem_cons_succ, List.setIfInBounds_toArray, List.set_cons_zero, List.set_cons_succ])
        refine wpAnyH_take (i := 19) (v := ?_) rfl (by kernel_rfl) (by kernel_rfl) (by kernel_rfl) (fun _ _ _ h => h) (Or.inl ⟨by rfl, ?_⟩) (by assumption) ?_
        rotate_left
        · (intro w hSw; (try dsimp only at hSw); go_simp; (try with_reducible rfl))
        (try simp only [Act.put, List.getElem_toArray, List.getElem_cons_zero, List.getElem_cons_succ, List.setIfInBounds_toArray, List.set_cons_zero, List.set_cons_succ])
        refine wpAnyH_done (by kernel_rfl) ?_ _
        go_wp2
        go_ret
        refine ⟨by (rw [HF.out]) <;> first | rfl | (simp; done) | (simp [*]; done), ?_⟩
        repeat' (first
          | (with_reducible exact Below.refl _ _)
          | (with_reducible assumption)
          | (with_reducible refine Below.alloc ?_ ?_ _)
          | (with_reducible refine Below.drew ?_)
          | (with_reducible refine bdrewN ?_ _)
          | (with_reducible refine Below.setCell ?_ ?_ _)
          | (with_reducible refine bthen (by assumption) ?_ ?_)
          | go_size)
      · cases g2 : inB f 0 (lenTo z k)
        · have HF := Lib.hid (show trackB z k f u = false by simp [trackB, g2])
          go_wp2
          refine wp_region_held_drew (S := fun w' => w'.cell? ⟨w.heap.size, 0, none⟩ = some (.slice (A) k c) ∧ w'.cell? ⟨w.heap.size, 1, none⟩ = some (.int .i64 (f)) ∧ w'.cell? ⟨w.heap.size, 2, none⟩ = some (.int .i64 (u)) ∧ w.heap.size < w'.heap.size ∧ RowI w' (A) z) (by kernel_rfl) ?_ (fun hHeld => ?_)
          · (((try dsimp only at *); (try go_split_ands); (repeat' apply And.intro) <;> first | (with_reducible assumption) | (rw [qc _ _ (by with_reducible assumption)]; with_reducible assumption) | (with_reducible exact qz _ (by with_reducible assumption)) | (with_reducible exact RowI.below (by with_reducible assumption) (by with_reducible assumption)) | (simp [*, go_sem]; done) | omega | (refine RowI.drew ?_; simp [*]; done) | ((repeat (first | (with_reducible assumption) | (with_reducible refine RowI.drew ?_) | (with_reducible refine RowI.drewN ?_ _) | (with_reducible refine RowI.alloc ?_ _) | (with_reducible refine RowI.below ?_ (by with_reducible assumption)))); done) | (refine RowI.below ?_ (by assumption); first | (simp [*]; done) | (refine RowI.drew ?_; simp [*]; done))))
          refine wpAnyH_take (i := 0) (v := ?_) rfl (by kernel_rfl) (by kernel_rfl) (by kernel_rfl) (fun _ _ _ h => h) (Or.inl ⟨by rfl, ?_⟩) (by assumption) ?_
          rotate_left
          · (intro w hSw; (try dsimp only at hSw); go_simp; (try with_reducible rfl))
          (try simp only [Act.put, List.getElem_toArray, List.getElem_cons_zero, List.getElem_cons_succ, List.setIfInBounds_toArray, List.set_cons_zero, List.set_cons_succ])
          refine wpAnyH_ready (rs := [1]) (by kernel_rfl) (by simp) ?_
          refine AllReadyH.cons rfl (fun K hK => ?_) AllReadyH.nil
          go_simp
          (first
            | (go_at_call 59; (apply Calls.mono; focus ((apply (length_c _ _ _ z _ _ hz n1 hs)); (all_goals (first | (with_reducible assumption) | omega | (repeat (first | (with_reducible assumption) | (with_reducible exact RowI.new _ _ _) | ((with_reducible refine RowI.new_at ?_); (simp; done)) | (with_reducible refine RowI.drewN ?_ _) | (with_reducible refine RowI.drew ?_) | (with_reducible refine RowI.alloc ?_ _) | (with_reducible refine RowI.below ?_ (by with_reducible assumption)) | (simp [*]; done))))); done)); rintro e w' ⟨rfl, hb⟩; obtain ⟨qc, qf, qz, qs⟩ := bfacts hb; (try simp only [World.size_alloc, World.size_setCell, World.size_drew, World.heap_drewN] at qs))
            | (go_at_call 77; go_call (within_v g2 _); rintro e w' ⟨rfl, rfl⟩))
          (try go_wp2_with fail)
          refine hK.out _ _ ?_ (fun hHeld => ?_)
          · (((try dsimp only at *); (try go_split_ands); (repeat' apply And.intro) <;> first | (with_reducible assumption) | (rw [qc _ _ (by with_reducible assumption)]; with_reducible assumption) | (with_reducible exact qz _ (by with_reducible assumption)) | (with_reducible exact RowI.below (by with_reducible assumption) (by with_reducible assumption)) | (simp [*, go_sem]; done) | omega | (refine RowI.drew ?_; simp [*]; done) | ((repeat (first | (with_reducible assumption) | (with_reducible refine RowI.drew ?_) | (with_reducible refine RowI.drewN ?_ _) | (with_reducible refine RowI.alloc ?_ _) | (with_reducible refine RowI.below ?_ (by with_reducible assumption)))); done) | (refine RowI.below ?_ (by assumption); first | (simp [*]; done) | (refine RowI.drew ?_; simp [*]; done))))
          clear hK K
          (try simp only [Act.put, List.getElem_toArray, List.getElem_cons_zero, List.getElem_cons_succ, List.setIfInBounds_toArray, List.set_cons_zero, List.set_cons_succ])
          refine wpAnyH_take (i := 2) (v := ?_) rfl (by kernel_rfl) (by kernel_rfl) (by kernel_rfl) (fun _ _ _ h => h) (Or.inl ⟨by rfl, ?_⟩) (by assumption) ?_
          rotate_left
          · (intro w hSw; (try dsimp only at hSw); go_simp; (try with_reducible rfl))
          (try simp only [Act.put, List.getElem_toArray, List.getElem_cons_zero, List.getElem_cons_succ, List.setIfInBounds_toArray, List.set_cons_zero, List.set_cons_succ])
          refine wpAnyH_take (i := 3) (v := ?_) rfl (by kernel_rfl) (by kernel_rfl) (by kernel_rfl) (fun _ _ _ h => h) (Or.inl ⟨by rfl, ?_⟩) (by assumption) ?_
          rotate_left
          · (intro w hSw; (try dsimp only at hSw); go_simp; (try with_reducible rfl))
          (try simp only [Act.put, List.getElem_toArray, List.getElem_cons_zero, List.getElem_cons_succ, List.setIfInBounds_toArray, List.set_cons_zero, List.set_cons_succ])
          refine wpAnyH_take (i := 4) (v := ?_) rfl (by kernel_rfl) (by kernel_rfl) (by kernel_rfl) (fun _ _ _ h => h) (Or.inl ⟨by rfl, ?_⟩) (by assumption) ?_
          rotate_left
          · (intro w hSw; (try dsimp only at hSw); go_simp; (try with_reducible rfl))
          (try simp only [Act.put, List.getElem_toArray, List.getElem_cons_zero, List.getElem_cons_succ, List.setIfInBounds_toArray, List.set_cons_zero, List.set_cons_succ])
          refine wpAnyH_take (i := 5) (v := ?_) rfl (by kernel_rfl) (by kernel_rfl) (by kernel_rfl) (fun _ _ _ h => h) (Or.inl ⟨by rfl, ?_⟩) (by assumption) ?_
          rotate_left
          · (intro w hSw; (try dsimp only at hSw); go_simp; (try with_reducible rfl))
          (try simp only [Act.put, List.getElem_toArray, List.getElem_cons_zero, List.getElem_cons_succ, List.setIfInBounds_toArray, List.set_cons_zero, List.set_cons_succ])
          refine wpAnyH_take (i := 6) (v := ?_) rfl (by kernel_rfl) (by kernel_rfl) (by kernel_rfl) (fun _ _ _ h => h) (Or.inl ⟨by rfl, ?_⟩) (by assumption) ?_
          rotate_left
          · (intro w hSw; (try dsimp only at hSw); go_simp; (try with_reducible rfl))
          (try simp only [Act.put, List.getElem_toArray, List.getElem_cons_zero, List.getElem_cons_succ, List.setIfInBounds_toArray, List.set_cons_zero, List.set_cons_succ])
          refine wpAnyH_ready (rs := [7]) (by kernel_rfl) (by simp) ?_
          refine AllReadyH.cons rfl (fun K hK => ?_) AllReadyH.nil
          go_simp
          (first
            | (go_at_call 59; (apply Calls.mono; focus ((apply (length_c _ _ _ z _ _ hz n1 hs)); (all_goals (first | (with_reducible assumption) | omega | (repeat (first | (with_reducible assumption) | (with_reducible exact RowI.new _ _ _) | ((with_reducible refine RowI.new_at ?_); (simp; done)) | (with_reducible refine RowI.drewN ?_ _) | (with_reducible refine RowI.drew ?_) | (with_reducible refine RowI.alloc ?_ _) | (with_reducible refine RowI.below ?_ (by with_reducible assumption)) | (simp [*]; done))))); done)); rintro e w' ⟨rfl, hb⟩; obtain ⟨qc, qf, qz, qs⟩ := bfacts hb; (try simp only [World.size_alloc, World.size_setCell, World.size_drew, World.heap_drewN] at qs))
            | (go_at_call 77; go_call (within_v g2 _); rintro e w' ⟨rfl, rfl⟩))
          (try go_wp2_with fail)
          refine hK.out _ _ ?_ (fun hHeld => ?_)
          · (((try dsimp only at *); (try go_split_ands); (repeat' apply And.intro) <;> first | (with_reducible assumption) | (rw [qc _ _ (by with_reducible assumption)]; with_reducible assumption) | (with_reducible exact qz _ (by with_reducible assumption)) | (with_reducible exact RowI.below (by with_reducible assumption) (by with_reducible assumption)) | (simp [*, go_sem]; done) | omega | (refine RowI.drew ?_; simp [*]; done) | ((repeat (first | (with_reducible assumption) | (with_reducible refine RowI.drew ?_) | (with_reducible refine RowI.drewN ?_ _) | (with_reducible refine RowI.alloc ?_ _) | (with_reducible refine RowI.below ?_ (by with_reducible assumption)))); done) | (refine RowI.below ?_ (by assumption); first | (simp [*]; done) | (refine RowI.drew ?_; simp [*]; done))))
          clear hK K
          (try simp only [Act.put, List.getElem_toArray, List.getElem_cons_zero, List.getElem_cons_succ, List.setIfInBounds_toArray, List.set_cons_zero, List.set_cons_succ])
          refine wpAnyH_ready (rs := [8]) (by kernel_rfl) (by simp) ?_
          refine AllReadyH.cons rfl (fun K hK => ?_) AllReadyH.nil
          go_simp
          (first
            | (go_at_call 59; (apply Calls.mono; focus ((apply (length_c _ _ _ z _ _ hz n1 hs)); (all_goals (first | (with_reducible assumption) | omega | (repeat (first | (with_reducible assumption) | (with_reducible exact RowI.new _ _ _) | ((with_reducible refine RowI.new_at ?_); (simp; done)) | (with_reducible refine RowI.drewN ?_ _) | (with_reducible refine RowI.drew ?_) | (with_reducible refine RowI.alloc ?_ _) | (with_reducible refine RowI.below ?_ (by with_reducible assumption)) | (simp [*]; done))))); done)); rintro e w' ⟨rfl, hb⟩; obtain ⟨qc, qf, qz, qs⟩ := bfacts hb; (try simp only [World.size_alloc, World.size_setCell, World.size_drew, World.heap_drewN] at qs))
            | (go_at_call 77; go_call (within_v g2 _); rintro e w' ⟨rfl, rfl⟩))
          (try go_wp2_with fail)
          refine hK.out _ _ ?_ (fun hHeld => ?_)
          · (((try dsimp only at *); (try go_split_ands); (repeat' apply And.intro) <;> first | (with_reducible assumption) | (rw [qc _ _ (by with_reducible assumption)]; with_reducible assumption) | (with_reducible exact qz _ (by with_reducible assumption)) | (with_reducible exact RowI.below (by with_reducible assumption) (by with_reducible assumption)) | (simp [*, go_sem]; done) | omega | (refine RowI.drew ?_; simp [*]; done) | ((repeat (first | (with_reducible assumption) | (with_reducible refine RowI.drew ?_) | (with_reducible refine RowI.drewN ?_ _) | (with_reducible refine RowI.alloc ?_ _) | (with_reducible refine RowI.below ?_ (by with_reducible assumption)))); done) | (refine RowI.below ?_ (by assumption); first | (simp [*]; done) | (refine RowI.drew ?_; simp [*]; done))))
          clear hK K
          (try simp only [Act.put, List.getElem_toArray, List.getElem_cons_zero, List.getElem_cons_succ, List.setIfInBounds_toArray, List.set_cons_zero, List.set_cons_succ])
          refine wpAnyH_take (i := 9) (v := ?_) rfl (by kernel_rfl) (by kernel_rfl) (by kernel_rfl) (fun _ _ _ h => h) (Or.inl ⟨by rfl, ?_⟩) (by assumption) ?_
          rotate_left
          · (intro w hSw; (try dsimp only at hSw); go_simp; (try with_reducible rfl))
          (try simp only [Act.put, List.getElem_toArray, List.getElem_cons_zero, List.getElem_cons_succ, List.setIfInBounds_toArray, List.set_cons_zero, List.set_cons_succ])
          refine wpAnyH_take (i := 10) (v := ?_) rfl (by kernel_rfl) (by kernel_rfl) (by kernel_rfl) (fun _ _ _ h => h) (Or.inl ⟨by rfl, ?_⟩) (by assumption) ?_
          rotate_left
          · (intro w hSw; (try dsimp only at hSw); go_simp; (try with_reducible rfl))
          (try simp only [Act.put, List.getElem_toArray, List.getElem_cons_zero, List.getElem_cons_succ, List.setIfInBounds_toArray, List.set_cons_zero, List.set_cons_succ])
          refine wpAnyH_take (i := 11) (v := undef) rfl (by kernel_rfl) (by kernel_rfl) (by kernel_rfl) (fun _ _ _ h => h) (Or.inr ⟨by first | kernel_rfl | rfl, rfl⟩) (by assumption) ?_
          (try simp only [Act.put, List.getElem_toArray, List.getElem_cons_zero, List.getElem_cons_succ, List.setIfInBounds_toArray, List.set_cons_zero, List.set_cons_succ])
          refine wpAnyH_take (i := 12) (v := undef) rfl (by kernel_rfl) (by kernel_rfl) (by kernel_rfl) (fun _ _ _ h => h) (Or.inr ⟨by first | kernel_rfl | rfl, rfl⟩) (by assumption) ?_
          (try simp only [Act.put, List.getElem_toArray, List.getElem_cons_zero, List.getElem_cons_succ, List.setIfInBounds_toArray, List.set_cons_zero, List.set_cons_succ])
          refine wpAnyH_take (i := 13) (v := undef) rfl (by kernel_rfl) (by kernel_rfl) (by kernel_rfl) (fun _ _ _ h => h) (Or.inr ⟨by first | kernel_rfl | rfl, rfl⟩) (by assumption) ?_
          (try simp only [Act.put, List.getElem_toArray, List.getElem_cons_zero, List.getElem_cons_succ, List.setIfInBounds_toArray, List.set_cons_zero, List.set_cons_succ])
          refine wpAnyH_take (i := 14) (v := undef) rfl (by kernel_rfl) (by kernel_rfl) (by kernel_rfl) (fun _ _ _ h => h) (Or.inr ⟨by first | kernel_rfl | rfl, rfl⟩) (by assumption) ?_
          (try simp only [Act.put, List.getElem_toArray, List.getElem_cons_zero, List.getElem_cons_succ, List.setIfInBounds_toArray, List.set_cons_zero, List.set_cons_succ])
          refine wpAnyH_take (i := 15) (v := undef) rfl (by kernel_rfl) (by kernel_rfl) (by kernel_rfl) (fun _ _ _ h => h) (Or.inr ⟨by first | kernel_rfl | rfl, rfl⟩) (by assumption) ?_
          (try simp only [Act.put, List.getElem_toArray, List.getElem_cons_zero, List.getElem_cons_succ, List.setIfInBounds_toArray, List.set_cons_zero, List.set_cons_succ])
          refine wpAnyH_take (i := 16) (v := undef) rfl (by kernel_rfl) (by kernel_rfl) (by kernel_rfl) (fun _ _ _ h => h) (Or.inr ⟨by first | kernel_rfl | rfl, rfl⟩) (by assumption) ?_
          (try simp only [Act.put, List.getElem_toArray, List.getElem_cons_zero, List.getElem_cons_succ, List.setIfInBounds_toArray, List.set_cons_zero, List.set_cons_succ])
          refine wpAnyH_take (i := 17) (v := undef) rfl (by kernel_rfl) (by kernel_rfl) (by kernel_rfl) (fun _ _ _ h => h) (Or.inr ⟨by first | kernel_rfl | rfl, rfl⟩) (by assumption) ?_
          (try simp only [Act.put, List.getElem_toArray, List.getElem_cons_zero, List.getElem_cons_succ, List.setIfInBounds_toArray, List.set_cons_zero, List.set_cons_succ])
          refine wpAnyH_take (i := 18) (v := ?_) rfl (by kernel_rfl) (by kernel_rfl) (by kernel_rfl) (fun _ _ _ h => h) (Or.inl ⟨by rfl, ?_⟩) (by assumption) ?_
          rotate_left
          · (intro w hSw; (try dsimp only at hSw); go_simp; (try with_reducible rfl))
          (try simp only [Act.put, List.getElem_toArray, List.getElem_cons_zero, List.getElem_cons_succ, List.setIfInBounds_toArray, List.set_cons_zero, List.set_cons_succ])
          refine wpAnyH_take (i := 19) (v := ?_) rfl (by kernel_rfl) (by kernel_rfl) (by kernel_rfl) (fun _ _ _ h => h) (Or.inl ⟨by rfl, ?_⟩) (by assumption) ?_
          rotate_left
          · (intro w hSw; (try dsimp only at hSw); go_simp; (try with_reducible rfl))
          (try simp only [Act.put, List.getElem_toArray, List.getElem_cons_zero, List.getElem_cons_succ, List.setIfInBounds_toArray, List.set_cons_zero, List.set_cons_succ])
          refine wpAnyH_done (by kernel_rfl) ?_ _
          go_wp2
          go_ret
          refine ⟨by (rw [HF.out]) <;> first | rfl | (simp; done) | (simp [*]; done), ?_⟩
          repeat' (first
            | (with_reducible exact Below.refl _ _)
            | (with_reducible assumption)
            | (with_reducible refine Below.alloc ?_ ?_ _)
            | (with_reducible refine Below.drew ?_)
            | (with_reducible refine bdrewN ?_ _)
            | (with_reducible refine Below.setCell ?_ ?_ _)
            | (with_reducible refine bthen (by assumption) ?_ ?_)
            | go_size)
        · have HF := Lib.hid (show trackB z k f u = inB u f (lenTo z k) by simp [trackB, n0, n1, hs, of_decide_eq_true g1, g2])
          go_wp2
          first
            | go_region_held3 (fun w' => w'.cell? ⟨w.heap.size, 0, none⟩ = some (.slice (A) k c) ∧ w'.cell? ⟨w.heap.size, 1, none⟩ = some (.int .i64 (f)) ∧ w'.cell? ⟨w.heap.size, 2, none⟩ = some (.int .i64 (u)) ∧ w.heap.size < w'.heap.size ∧ RowI w' (A) z) (((try dsimp only at *); (try go_split_ands); (repeat' apply And.intro) <;> first | (with_reducible assumption) | (rw [qc _ _ (by with_reducible assumption)]; with_reducible assumption) | (with_reducible exact qz _ (by with_reducible assumption)) | (with_reducible exact RowI.below (by with_reducible assumption) (by with_reducible assumption)) | (simp [*, go_sem]; done) | omega | (refine RowI.drew ?_; simp [*]; done) | ((repeat (first | (with_reducible assumption) | (with_reducible refine RowI.drew ?_) | (with_reducible refine RowI.drewN ?_ _) | (with_reducible refine RowI.alloc ?_ _) | (with_reducible refine RowI.below ?_ (by with_reducible assumption)))); done) | (refine RowI.below ?_ (by assumption); first | (simp [*]; done) | (refine RowI.drew ?_; simp [*]; done))))
                (first
                  | (go_at_call 59; (apply Calls.mono; focus ((apply (length_c _ _ _ z _ _ hz n1 hs)); (all_goals (first | (with_reducible assumption) | omega | (repeat (first | (with_reducible assumption) | (with_reducible exact RowI.new _ _ _) | ((with_reducible refine RowI.new_at ?_); (simp; done)) | (with_reducible refine RowI.drewN ?_ _) | (with_reducible refine RowI.drew ?_) | (with_reducible refine RowI.alloc ?_ _) | (with_reducible refine RowI.below ?_ (by with_reducible assumption)) | (simp [*]; done))))); done)); rintro e w' ⟨rfl, hb⟩; obtain ⟨qc, qf, qz, qs⟩ := bfacts hb; (try simp only [World.size_alloc, World.size_setCell, World.size_drew, World.heap_drewN] at qs))
                  | (go_at_call 77; go_call (within_c _ _ _ _); rintro e w' ⟨rfl, rfl⟩))
            | fail
          go_wp2
          go_ret
          refine ⟨by rw [HF.out]; rfl, ?_⟩
          repeat' (first
            | (with_reducible exact Below.refl _ _)
            | (with_reducible assumption)
            | (with_reducible refine Below.alloc ?_ ?_ _)
            | (with_reducible refine Below.drew ?_)
            | (with_reducible refine bdrewN ?_ _)
            | (with_reducible refine Below.setCell ?_ ?_ _)
            | (with_reducible refine bthen (by assumption) ?_ ?_)
            | go_size)
end Go.Proofs.Ytmkfkpfblnblgaa
