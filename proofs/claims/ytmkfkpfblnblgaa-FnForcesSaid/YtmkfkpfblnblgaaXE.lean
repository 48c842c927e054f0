/- The greatest tension and the greatest net pull of a ride. -/
import Derived.Test.YtmkfkpfblnblgaaXB
namespace Go.Proofs.Ytmkfkpfblnblgaa
open Go.ChangeShapes Go.WideShapes Go.ChangeAt Go.RowKit
set_option linter.unusedVariables false
set_option linter.unusedSimpArgs false

theorem bestF_place {val : Int → Int} {len step : Int} (s0 : 1 ≤ step) : ∀ (q : Nat) (x : Int) (s : Int × Int), 0 ≤ x → 0 ≤ s.1 → s.1 ≤ len → 0 ≤ (bestF val len step q x s).1 ∧ (bestF val len step q x s).1 ≤ len := by
  intro q
  induction q with
  | zero => intro x s h0 h1 h2; exact ⟨h1, h2⟩
  | succ q ih =>
    intro x s h0 h1 h2
    by_cases h : x ≤ len
    · by_cases g : s.2 < val x
      · rw [bestF_hit h g]
        exact ih _ _ (by omega) h0 h
      · rw [bestF_on h g]
        exact ih _ _ (by omega) h1 h2
    · rw [bestF_end h]
      exact ⟨h1, h2⟩
theorem bestI_place {val : Int → Int} {len step : Int} (s0 : 1 ≤ step) (h : 0 ≤ len) : 0 ≤ (bestI val len step).1 ∧ (bestI val len step).1 ≤ len := bestF_place s0 _ _ _ (by omega) (by simp) h
theorem max_neg (x : Int) : max x (-x) = absI x := by
  unfold absI
  split <;> omega
def fGreatestTension (z : List Int) (n : Nat) (f u k r step : Int) : Int × Int × Int := if codeR z n f u step (inB k 0 100000 && inB r 0 20000) = 0 then ((bestI (fun y => tenI z n y k r) (lenTo z n) step).1, (bestI (fun y => tenI z n y k r) (lenTo z n) step).2, 0) else (0, 0, codeR z n f u step (inB k 0 100000 && inB r 0 20000))
set_option maxHeartbeats 4000000 in
theorem implGreatestTension_c (A : Option Addr) (n c : Nat) (z : List Int) (f u k r step : Int) (hz : z.length = n * 2) (hn : n ≤ 1048576) (w : World) (hrow : RowI w A z) : Calls Try.prog 25 #[.agg #[.slice A n c, .int .i64 f, .int .i64 u], .int .i64 k, .int .i64 r, .int .i64 step] w fun e w' => e = .returned (.tuple #[.int .i64 (fGreatestTension z n f u k r step).1, .int .i64 (fGreatestTension z n f u k r step).2.1, .int .i64 (fGreatestTension z n f u k r step).2.2]) ∧ Below w.heap.size w w' := by
  cases hk : inB k 0 100000
  ·
    have hm : (inB k 0 100000 && inB r 0 20000) = false := by simp [hk]
    obtain ⟨code, hcode⟩ : ∃ code, codeR z n f u step false = code := ⟨_, rfl⟩
    have hne : code ≠ 0 := by rw [← hcode]; exact codeR_false
    have hne2 : (code != 0) = true := by simpa using hne
    have HG := Lib.hid (show fGreatestTension z n f u k r step = (0, 0, code) by unfold fGreatestTension; rw [hm, hcode, if_neg hne])
    rw [HG.out]
    go_enter Try.func25, Try.ntmps25
    go_wp2
    refine wp_region_held_drew (S := fun w' => w'.cell? ⟨w.heap.size, 0, none⟩ = some (.slice (A) n c) ∧ w'.cell? ⟨w.heap.size, 1, none⟩ = some (.int .i64 (f)) ∧ w'.cell? ⟨w.heap.size, 2, none⟩ = some (.int .i64 (u)) ∧ w.heap.size < w'.heap.size ∧ RowI w' (A) z ∧ w'.cell? ⟨w.heap.size + 1, 0, none⟩ = some (.int .i64 k) ∧ w.heap.size + 1 < w'.heap.size ∧ w'.cell? ⟨w.heap.size + 1 + 1, 0, none⟩ = some (.int .i64 r) ∧ w.heap.size + 1 + 1 < w'.heap.size) (by kernel_rfl) ?_ (fun hHeld => ?_)
    · (((try dsimp only at *); (try go_split_ands); (repeat' apply And.intro) <;> first | (with_reducible assumption) | (rw [qc _ _ (by with_reducible assumption)]; with_reducible assumption) | (with_reducible exact qz _ (by with_reducible assumption)) | (with_reducible exact RowI.below (by with_reducible assumption) (by with_reducible assumption)) | (simp [*, go_sem]; done) | omega | (refine RowI.drew ?_; simp [*]; done) | ((repeat (first | (with_reducible assumption) | (with_reducible refine RowI.drew ?_) | (with_reducible refine RowI.drewN ?_ _) | (with_reducible refine RowI.alloc ?_ _) | (with_reducible refine RowI.below ?_ (by with_reducible assumption)))); done) | (refine RowI.below ?_ (by assumption); first | (simp [*]; done) | (refine RowI.drew ?_; simp [*]; done))))
    refine wpAnyH_take (i := 0) (v := ?_) rfl (by kernel_rfl) (by kernel_rfl) (by kernel_rfl) (fun _ _ _ h => h) (Or.inl ⟨by rfl, ?_⟩) (by assumption) ?_
    rotate_left
    · (intro w hSw; (try dsimp only at hSw); go_simp; (try with_reducible rfl))
    (try simp only [Act.put, List.getElem_toArray, List.getElem_cons_zero, List.getElem_cons_succ, List.setIfInBounds_toArray, List.set_cons_zero, List.set_cons_succ])
    refine wpAnyH_take (i := 1) (v := ?_) rfl (by kernel_rfl) (by kernel_rfl) (by kernel_rfl) (fun _ _ _ h => h) (Or.inl ⟨by rfl, ?_⟩) (by assumption) ?_
    rotate_left
    · (intro w hSw; (try dsimp only at hSw); go_simp; (try with_reducible rfl))
    (try simp only [Act.put, List.getElem_toArray, List.getElem_cons_zero, List.getElem_cons_succ, List.setIfInBounds_toArray, List.set_cons_zero, List.set_cons_succ])
    refine wpAnyH_take (i := 2) (v := ?_) rfl (by kernel_rfl) (by kernel_rfl) (by kernel_rfl) (fun _ _ _ h => h) (Or.inl ⟨by rfl, ?_⟩) (by assumption) ?_
    rotate_left
    · (intro w hSw; (try dsimp only at hSw); go_simp; (try with_reducible rfl))
    (try simp only [Act.put, List.getElem_toArray, List.getElem_cons_zero, List.getElem_cons_succ, List.setIfInBounds_toArray, List.set_cons_zero, List.set_cons_succ])
    refine wpAnyH_ready (rs := [3]) (by kernel_rfl) (by simp) ?_
    refine AllReadyH.cons rfl (fun K hK => ?_) AllReadyH.nil
    go_simp
    (first
      | (go_at_call 44; (apply Calls.mono; focus ((with_reducible apply (isKilos_v hk)); (all_goals (first | (with_reducible assumption) | omega | ((repeat (first | (with_reducible assumption) | (with_reducible refine RowI.drewN ?_ _) | (with_reducible refine RowI.drew ?_) | (with_reducible refine RowI.alloc ?_ _) | (with_reducible refine RowI.below ?_ (by with_reducible assumption)))); done) | assumption | (simp; done) | (simp [*]; done))); done)); rintro e w' ⟨rfl, rfl⟩)
      | (go_at_call 56; (apply Calls.mono; focus ((with_reducible apply (ridden_v hcode hz hn)); (all_goals (first | (with_reducible assumption) | omega | ((repeat (first | (with_reducible assumption) | (with_reducible refine RowI.drewN ?_ _) | (with_reducible refine RowI.drew ?_) | (with_reducible refine RowI.alloc ?_ _) | (with_reducible refine RowI.below ?_ (by with_reducible assumption)))); done) | assumption | (simp; done) | (simp [*]; done))); done)); rintro e w' ⟨rfl, hb⟩; obtain ⟨qc, qf, qz, qs⟩ := bfacts hb; (try simp only [World.size_alloc, World.size_setCell, World.size_drew, World.heap_drewN] at qs)))
    (try go_wp2_with fail)
    refine hK.out _ _ ?_ (fun hHeld => ?_)
    · (((try dsimp only at *); (try go_split_ands); (repeat' apply And.intro) <;> first | (with_reducible assumption) | (rw [qc _ _ (by with_reducible assumption)]; with_reducible assumption) | (with_reducible exact qz _ (by with_reducible assumption)) | (with_reducible exact RowI.below (by with_reducible assumption) (by with_reducible assumption)) | (simp [*, go_sem]; done) | omega | (refine RowI.drew ?_; simp [*]; done) | ((repeat (first | (with_reducible assumption) | (with_reducible refine RowI.drew ?_) | (with_reducible refine RowI.drewN ?_ _) | (with_reducible refine RowI.alloc ?_ _) | (with_reducible refine RowI.below ?_ (by with_reducible assumption)))); done) | (refine RowI.below ?_ (by assumption); first | (simp [*]; done) | (refine RowI.drew ?_; simp [*]; done))))
    clear hK K
    (try simp only [Act.put, List.getElem_toArray, List.getElem_cons_zero, List.getElem_cons_succ, List.setIfInBounds_toArray, List.set_cons_zero, List.set_cons_succ])
    refine wpAnyH_take (i := 4) (v := ?_) rfl (by kernel_rfl) (by kernel_rfl) (by kernel_rfl) (fun _ _ _ h => h) (Or.inl ⟨by rfl, ?_⟩) (by assumption) ?_
    rotate_left
    · (intro w hSw; (try dsimp only at hSw); go_simp; (try with_reducible rfl))
    (try simp only [Act.put, List.getElem_toArray, List.getElem_cons_zero, List.getElem_cons_succ, List.setIfInBounds_toArray, List.set_cons_zero, List.set_cons_succ])
    refine wpAnyH_take (i := 5) (v := undef) rfl (by kernel_rfl) (by kernel_rfl) (by kernel_rfl) (fun _ _ _ h => h) (Or.inr ⟨by first | kernel_rfl | rfl, rfl⟩) (by assumption) ?_
    (try simp only [Act.put, List.getElem_toArray, List.getElem_cons_zero, List.getElem_cons_succ, List.setIfInBounds_toArray, List.set_cons_zero, List.set_cons_succ])
    refine wpAnyH_take (i := 6) (v := undef) rfl (by kernel_rfl) (by kernel_rfl) (by kernel_rfl) (fun _ _ _ h => h) (Or.inr ⟨by first | kernel_rfl | rfl, rfl⟩) (by assumption) ?_
    (try simp only [Act.put, List.getElem_toArray, List.getElem_cons_zero, List.getElem_cons_succ, List.setIfInBounds_toArray, List.set_cons_zero, List.set_cons_succ])
    refine wpAnyH_take (i := 7) (v := ?_) rfl (by kernel_rfl) (by kernel_rfl) (by kernel_rfl) (fun _ _ _ h => h) (Or.inl ⟨by rfl, ?_⟩) (by assumption) ?_
    rotate_left
    · (intro w hSw; (try dsimp only at hSw); go_simp; (try with_reducible rfl))
    (try simp only [Act.put, List.getElem_toArray, List.getElem_cons_zero, List.getElem_cons_succ, List.setIfInBounds_toArray, List.set_cons_zero, List.set_cons_succ])
    refine wpAnyH_ready (rs := [8]) (by kernel_rfl) (by simp) ?_
    refine AllReadyH.cons rfl (fun K hK => ?_) AllReadyH.nil
    go_simp
    (first
      | (go_at_call 44; (apply Calls.mono; focus ((with_reducible apply (isKilos_v hk)); (all_goals (first | (with_reducible assumption) | omega | ((repeat (first | (with_reducible assumption) | (with_reducible refine RowI.drewN ?_ _) | (with_reducible refine RowI.drew ?_) | (with_reducible refine RowI.alloc ?_ _) | (with_reducible refine RowI.below ?_ (by with_reducible assumption)))); done) | assumption | (simp; done) | (simp [*]; done))); done)); rintro e w' ⟨rfl, rfl⟩)
      | (go_at_call 56; (apply Calls.mono; focus ((with_reducible apply (ridden_v hcode hz hn)); (all_goals (first | (with_reducible assumption) | omega | ((repeat (first | (with_reducible assumption) | (with_reducible refine RowI.drewN ?_ _) | (with_reducible refine RowI.drew ?_) | (with_reducible refine RowI.alloc ?_ _) | (with_reducible refine RowI.below ?_ (by with_reducible assumption)))); done) | assumption | (simp; done) | (simp [*]; done))); done)); rintro e w' ⟨rfl, hb⟩; obtain ⟨qc, qf, qz, qs⟩ := bfacts hb; (try simp only [World.size_alloc, World.size_setCell, World.size_drew, World.heap_drewN] at qs)))
    (try go_wp2_with fail)
    refine hK.out _ _ ?_ (fun hHeld => ?_)
    · (((try dsimp only at *); (try go_split_ands); (repeat' apply And.intro) <;> first | (with_reducible assumption) | (rw [qc _ _ (by with_reducible assumption)]; with_reducible assumption) | (with_reducible exact qz _ (by with_reducible assumption)) | (with_reducible exact RowI.below (by with_reducible assumption) (by with_reducible assumption)) | (simp [*, go_sem]; done) | omega | (refine RowI.drew ?_; simp [*]; done) | ((repeat (first | (with_reducible assumption) | (with_reducible refine RowI.drew ?_) | (with_reducible refine RowI.drewN ?_ _) | (with_reducible refine RowI.alloc ?_ _) | (with_reducible refine RowI.below ?_ (by with_reducible assumption)))); done) | (refine RowI.below ?_ (by assumption); first | (simp [*]; done) | (refine RowI.drew ?_; simp [*]; done))))
    clear hK K
    (try simp only [Act.put, List.getElem_toArray, List.getElem_cons_zero, List.getElem_cons_succ, List.setIfInBounds_toArray, List.set_cons_zero, List.set_cons_succ])
    refine wpAnyH_take (i := 9) (v := ?_) rfl (by kernel_rfl) (by kernel_rfl) (by kernel_rfl) (fun _ _ _ h => h) (Or.inl ⟨by rfl, ?_⟩) (by assumption) ?_
    rotate_left
    · (intro w hSw; (try dsimp only at hSw); go_simp; (try with_reducible rfl))
    (try simp only [Act.put, List.getElem_toArray, List.getElem_cons_zero, List.getElem_cons_succ, List.setIfInBounds_toArray, List.set_cons_zero, List.set_cons_succ])
    refine wpAnyH_done (by kernel_rfl) ?_ _
    go_wp2
    go_returns
    refine ⟨rfl, ?_⟩
    repeat' (first
      | (with_reducible exact Below.refl _ _)
      | (with_reducible assumption)
      | (with_reducible refine Below.alloc ?_ ?_ _)
      | (with_reducible refine Below.drew ?_)
      | (with_reducible refine bdrewN ?_ _)
      | (with_reducible refine Below.setCell ?_ ?_ _)
      | (with_reducible refine bthen (by assumption) ?_ ?_)
      | go_size)
  ·
    cases hr : inB r 0 20000
    ·
      have hm : (inB k 0 100000 && inB r 0 20000) = false := by simp [hk, hr]
      obtain ⟨code, hcode⟩ : ∃ code, codeR z n f u step false = code := ⟨_, rfl⟩
      have hne : code ≠ 0 := by rw [← hcode]; exact codeR_false
      have hne2 : (code != 0) = true := by simpa using hne
      have HG := Lib.hid (show fGreatestTension z n f u k r step = (0, 0, code) by unfold fGreatestTension; rw [hm, hcode, if_neg hne])
      rw [HG.out]
      go_enter Try.func25, Try.ntmps25
      go_wp2
      first
        | go_region_held3 (fun w' => w'.cell? ⟨w.heap.size, 0, none⟩ = some (.slice (A) n c) ∧ w'.cell? ⟨w.heap.size, 1, none⟩ = some (.int .i64 (f)) ∧ w'.cell? ⟨w.heap.size, 2, none⟩ = some (.int .i64 (u)) ∧ w.heap.size < w'.heap.size ∧ RowI w' (A) z ∧ w'.cell? ⟨w.heap.size + 1, 0, none⟩ = some (.int .i64 k) ∧ w.heap.size + 1 < w'.heap.size ∧ w'.cell? ⟨w.heap.size + 1 + 1, 0, none⟩ = some (.int .i64 r) ∧ w.heap.size + 1 + 1 < w'.heap.size) (((try dsimp only at *); (try go_split_ands); (repeat' apply And.intro) <;> first | (with_reducible assumption) | (rw [qc _ _ (by with_reducible assumption)]; with_reducible assumption) | (with_reducible exact qz _ (by with_reducible assumption)) | (with_reducible exact RowI.below (by with_reducible assumption) (by with_reducible assumption)) | (simp [*, go_sem]; done) | omega | (refine RowI.drew ?_; simp [*]; done) | ((repeat (first | (with_reducible assumption) | (with_reducible refine RowI.drew ?_) | (with_reducible refine RowI.drewN ?_ _) | (with_reducible refine RowI.alloc ?_ _) | (with_reducible refine RowI.below ?_ (by with_reducible assumption)))); done) | (refine RowI.below ?_ (by assumption); first | (simp [*]; done) | (refine RowI.drew ?_; simp [*]; done))))
            (first
              | (go_at_call 44; (apply Calls.mono; focus ((with_reducible apply (isKilos_v hk)); (all_goals (first | (with_reducible assumption) | omega | ((repeat (first | (with_reducible assumption) | (with_reducible refine RowI.drewN ?_ _) | (with_reducible refine RowI.drew ?_) | (with_reducible refine RowI.alloc ?_ _) | (with_reducible refine RowI.below ?_ (by with_reducible assumption)))); done) | assumption | (simp; done) | (simp [*]; done))); done)); rintro e w' ⟨rfl, rfl⟩)
              | (go_at_call 48; (apply Calls.mono; focus ((with_reducible apply (isRopeMass_v hr)); (all_goals (first | (with_reducible assumption) | omega | ((repeat (first | (with_reducible assumption) | (with_reducible refine RowI.drewN ?_ _) | (with_reducible refine RowI.drew ?_) | (with_reducible refine RowI.alloc ?_ _) | (with_reducible refine RowI.below ?_ (by with_reducible assumption)))); done) | assumption | (simp; done) | (simp [*]; done))); done)); rintro e w' ⟨rfl, rfl⟩)
              | (go_at_call 56; (apply Calls.mono; focus ((with_reducible apply (ridden_v hcode hz hn)); (all_goals (first | (with_reducible assumption) | omega | ((repeat (first | (with_reducible assumption) | (with_reducible refine RowI.drewN ?_ _) | (with_reducible refine RowI.drew ?_) | (with_reducible refine RowI.alloc ?_ _) | (with_reducible refine RowI.below ?_ (by with_reducible assumption)))); done) | assumption | (simp; done) | (simp [*]; done))); done)); rintro e w' ⟨rfl, hb⟩; obtain ⟨qc, qf, qz, qs⟩ := bfacts hb; (try simp only [World.size_alloc, World.size_setCell, World.size_drew, World.heap_drewN] at qs)))
        | fail
      go_wp2
      go_returns
      refine ⟨rfl, ?_⟩
      repeat' (first
        | (with_reducible exact Below.refl _ _)
        | (with_reducible assumption)
        | (with_reducible refine Below.alloc ?_ ?_ _)
        | (with_reducible refine Below.drew ?_)
        | (with_reducible refine bdrewN ?_ _)
        | (with_reducible refine Below.setCell ?_ ?_ _)
        | (with_reducible refine bthen (by assumption) ?_ ?_)
        | go_size)
    ·
      have hm : (inB k 0 100000 && inB r 0 20000) = true := by simp [hk, hr]
      obtain ⟨code, hcode⟩ : ∃ code, codeR z n f u step true = code := ⟨_, rfl⟩
      by_cases hz0 : code = 0
      ·
        subst hz0
        have HG := Lib.hid (show fGreatestTension z n f u k r step = ((bestI (fun y => tenI z n y k r) (lenTo z n) step).1, (bestI (fun y => tenI z n y k r) (lenTo z n) step).2, 0) by unfold fGreatestTension; rw [hm, hcode, if_pos rfl])
        rw [HG.out]
        clear HG hm
        obtain ⟨ht, hst, _⟩ := codeR_zero hcode
        obtain ⟨s0, s1⟩ := inB_true hst
        obtain ⟨⟨n0, n1⟩, hs, ⟨L0, L1⟩, _⟩ := trackB_true ht
        obtain ⟨k0, k1⟩ := inB_true hk
        obtain ⟨r0, r1⟩ := inB_true hr
        go_enter Try.func25, Try.ntmps25
        go_wp2
        first
          | go_region_held3 (fun w' => w'.cell? ⟨w.heap.size, 0, none⟩ = some (.slice (A) n c) ∧ w'.cell? ⟨w.heap.size, 1, none⟩ = some (.int .i64 (f)) ∧ w'.cell? ⟨w.heap.size, 2, none⟩ = some (.int .i64 (u)) ∧ w.heap.size < w'.heap.size ∧ RowI w' (A) z ∧ w'.cell? ⟨w.heap.size + 1, 0, none⟩ = some (.int .i64 k) ∧ w.heap.size + 1 < w'.heap.size ∧ w'.cell? ⟨w.heap.size + 1 + 1, 0, none⟩ = some (.int .i64 r) ∧ w.heap.size + 1 + 1 < w'.heap.size) (((try dsimp only at *); (try go_split_ands); (repeat' apply And.intro) <;> first | (with_reducible assumption) | (rw [qc _ _ (by with_reducible assumption)]; with_reducible assumption) | (with_reducible exact qz _ (by with_reducible assumption)) | (with_reducible exact RowI.below (by with_reducible assumption) (by with_reducible assumption)) | (simp [*, go_sem]; done) | omega | (refine RowI.drew ?_; simp [*]; done) | ((repeat (first | (with_reducible assumption) | (with_reducible refine RowI.drew ?_) | (with_reducible refine RowI.drewN ?_ _) | (with_reducible refine RowI.alloc ?_ _) | (with_reducible refine RowI.below ?_ (by with_reducible assumption)))); done) | (refine RowI.below ?_ (by assumption); first | (simp [*]; done) | (refine RowI.drew ?_; simp [*]; done))))
              (first
                | (go_at_call 44; (apply Calls.mono; focus ((with_reducible apply (isKilos_v hk)); (all_goals (first | (with_reducible assumption) | omega | ((repeat (first | (with_reducible assumption) | (with_reducible refine RowI.drewN ?_ _) | (with_reducible refine RowI.drew ?_) | (with_reducible refine RowI.alloc ?_ _) | (with_reducible refine RowI.below ?_ (by with_reducible assumption)))); done) | assumption | (simp; done) | (simp [*]; done))); done)); rintro e w' ⟨rfl, rfl⟩)
                | (go_at_call 48; (apply Calls.mono; focus ((with_reducible apply (isRopeMass_v hr)); (all_goals (first | (with_reducible assumption) | omega | ((repeat (first | (with_reducible assumption) | (with_reducible refine RowI.drewN ?_ _) | (with_reducible refine RowI.drew ?_) | (with_reducible refine RowI.alloc ?_ _) | (with_reducible refine RowI.below ?_ (by with_reducible assumption)))); done) | assumption | (simp; done) | (simp [*]; done))); done)); rintro e w' ⟨rfl, rfl⟩)
                | (go_at_call 56; (apply Calls.mono; focus ((with_reducible apply (ridden_v hcode hz hn)); (all_goals (first | (with_reducible assumption) | omega | ((repeat (first | (with_reducible assumption) | (with_reducible refine RowI.drewN ?_ _) | (with_reducible refine RowI.drew ?_) | (with_reducible refine RowI.alloc ?_ _) | (with_reducible refine RowI.below ?_ (by with_reducible assumption)))); done) | assumption | (simp; done) | (simp [*]; done))); done)); rintro e w' ⟨rfl, hb⟩; obtain ⟨qc, qf, qz, qs⟩ := bfacts hb; (try simp only [World.size_alloc, World.size_setCell, World.size_drew, World.heap_drewN] at qs)))
          | fail
        (try go_split_ands)
        have t0 : w'.cell? ⟨w.heap.size, 0, none⟩ = some (.slice A n c) := by first | assumption | simp [*]
        have t1 : w'.cell? ⟨w.heap.size, 1, none⟩ = some (.int .i64 f) := by first | assumption | simp [*]
        have t2 : w'.cell? ⟨w.heap.size, 2, none⟩ = some (.int .i64 u) := by first | assumption | simp [*]
        have t3 : w.heap.size < w'.heap.size := by first | assumption | omega
        have hBw : Below w.heap.size w w' := by
          repeat' (first
            | (with_reducible exact Below.refl _ _)
            | (with_reducible assumption)
            | (with_reducible refine Below.alloc ?_ ?_ _)
            | (with_reducible refine Below.drew ?_)
            | (with_reducible refine bdrewN ?_ _)
            | (with_reducible refine Below.setCell ?_ ?_ _)
            | (with_reducible refine bthen (by assumption) ?_ ?_)
            | go_size)
        have hrw : RowI w' A z := by first | assumption | exact hrow.below hBw
        have HTB := Lib.hid (show TrackBox w.heap.size A n c f u w' from ⟨t0, t1, t2, t3⟩)
        have HLE := Lib.hid (fun w' hr => length_c A n c z f u hz n1 hs w' hr)
        have HR := Lib.hid hrow
        have c1 : w'.cell? ⟨w.heap.size + 1, 0, none⟩ = some (.int .i64 k) := by first | assumption | simp [*]
        have c2 : w'.cell? ⟨w.heap.size + 1 + 1, 0, none⟩ = some (.int .i64 r) := by first | assumption | simp [*]
        have l1 : w.heap.size + 1 < w'.heap.size := by first | assumption | omega
        have l2 : w.heap.size + 1 + 1 < w'.heap.size := by first | assumption | omega
        have HG := Lib.hid (fun w' hr ht l1 l2 c1 c2 => greatestOnT_c A n c z f u step k r (w.heap.size) (w.heap.size + 1) (w.heap.size + 1 + 1) hz n0 n1 hs L1 L0 s0 s1 k0 k1 r0 r1 w' hr ht l1 l2 c1 c2)
        go_wp2_with (go_at_call 57; (refine (HG.out _ hrw HTB.out l1 l2 c1 c2).mono ?_); rintro e w1 ⟨rfl, hb1⟩)
        go_returns
        refine ⟨rfl, ?_⟩
        repeat' (first
          | (with_reducible exact Below.refl _ _)
          | (with_reducible assumption)
          | (with_reducible refine Below.alloc ?_ ?_ _)
          | (with_reducible refine Below.drew ?_)
          | (with_reducible refine bdrewN ?_ _)
          | (with_reducible refine Below.setCell ?_ ?_ _)
          | (with_reducible refine bthen (by assumption) ?_ ?_)
          | go_size)
      ·
        have hne2 : (code != 0) = true := by simpa using hz0
        have HG := Lib.hid (show fGreatestTension z n f u k r step = (0, 0, code) by unfold fGreatestTension; rw [hm, hcode, if_neg hz0])
        rw [HG.out]
        go_enter Try.func25, Try.ntmps25
        go_wp2
        first
          | go_region_held3 (fun w' => w'.cell? ⟨w.heap.size, 0, none⟩ = some (.slice (A) n c) ∧ w'.cell? ⟨w.heap.size, 1, none⟩ = some (.int .i64 (f)) ∧ w'.cell? ⟨w.heap.size, 2, none⟩ = some (.int .i64 (u)) ∧ w.heap.size < w'.heap.size ∧ RowI w' (A) z ∧ w'.cell? ⟨w.heap.size + 1, 0, none⟩ = some (.int .i64 k) ∧ w.heap.size + 1 < w'.heap.size ∧ w'.cell? ⟨w.heap.size + 1 + 1, 0, none⟩ = some (.int .i64 r) ∧ w.heap.size + 1 + 1 < w'.heap.size) (((try dsimp only at *); (try go_split_ands); (repeat' apply And.intro) <;> first | (with_reducible assumption) | (rw [qc _ _ (by with_reducible assumption)]; with_reducible assumption) | (with_reducible exact qz _ (by with_reducible assumption)) | (with_reducible exact RowI.below (by with_reducible assumption) (by with_reducible assumption)) | (simp [*, go_sem]; done) | omega | (refine RowI.drew ?_; simp [*]; done) | ((repeat (first | (with_reducible assumption) | (with_reducible refine RowI.drew ?_) | (with_reducible refine RowI.drewN ?_ _) | (with_reducible refine RowI.alloc ?_ _) | (with_reducible refine RowI.below ?_ (by with_reducible assumption)))); done) | (refine RowI.below ?_ (by assumption); first | (simp [*]; done) | (refine RowI.drew ?_; simp [*]; done))))
              (first
                | (go_at_call 44; (apply Calls.mono; focus ((with_reducible apply (isKilos_v hk)); (all_goals (first | (with_reducible assumption) | omega | ((repeat (first | (with_reducible assumption) | (with_reducible refine RowI.drewN ?_ _) | (with_reducible refine RowI.drew ?_) | (with_reducible refine RowI.alloc ?_ _) | (with_reducible refine RowI.below ?_ (by with_reducible assumption)))); done) | assumption | (simp; done) | (simp [*]; done))); done)); rintro e w' ⟨rfl, rfl⟩)
                | (go_at_call 48; (apply Calls.mono; focus ((with_reducible apply (isRopeMass_v hr)); (all_goals (first | (with_reducible assumption) | omega | ((repeat (first | (with_reducible assumption) | (with_reducible refine RowI.drewN ?_ _) | (with_reducible refine RowI.drew ?_) | (with_reducible refine RowI.alloc ?_ _) | (with_reducible refine RowI.below ?_ (by with_reducible assumption)))); done) | assumption | (simp; done) | (simp [*]; done))); done)); rintro e w' ⟨rfl, rfl⟩)
                | (go_at_call 56; (apply Calls.mono; focus ((with_reducible apply (ridden_v hcode hz hn)); (all_goals (first | (with_reducible assumption) | omega | ((repeat (first | (with_reducible assumption) | (with_reducible refine RowI.drewN ?_ _) | (with_reducible refine RowI.drew ?_) | (with_reducible refine RowI.alloc ?_ _) | (with_reducible refine RowI.below ?_ (by with_reducible assumption)))); done) | assumption | (simp; done) | (simp [*]; done))); done)); rintro e w' ⟨rfl, hb⟩; obtain ⟨qc, qf, qz, qs⟩ := bfacts hb; (try simp only [World.size_alloc, World.size_setCell, World.size_drew, World.heap_drewN] at qs)))
          | fail
        go_wp2
        go_returns
        refine ⟨rfl, ?_⟩
        repeat' (first
          | (with_reducible exact Below.refl _ _)
          | (with_reducible assumption)
          | (with_reducible refine Below.alloc ?_ ?_ _)
          | (with_reducible refine Below.drew ?_)
          | (with_reducible refine bdrewN ?_ _)
          | (with_reducible refine Below.setCell ?_ ?_ _)
          | (with_reducible refine bthen (by assumption) ?_ ?_)
          | go_size)
set_option maxHeartbeats 2000000 in
theorem specGreatestTension_c (A : Option Addr) (n c : Nat) (z : List Int) (f u k r step : Int) (hz : z.length = n * 2) (hn : n ≤ 1048576) (w : World) (hrow : RowI w A z) : Calls Try.prog 24 #[.agg #[.slice A n c, .int .i64 f, .int .i64 u], .int .i64 k, .int .i64 r, .int .i64 step] w fun e w' => e = .returned (.tuple #[.int .i64 (fGreatestTension z n f u k r step).1, .int .i64 (fGreatestTension z n f u k r step).2.1, .int .i64 (fGreatestTension z n f u k r step).2.2]) ∧ Below w.heap.size w w' := by
  obtain ⟨m, hm⟩ : ∃ m, (inB k 0 100000 && inB r 0 20000) = m := ⟨_, rfl⟩
  have hask : (inB k 0 100000 && inB 0 0 100000 && inB r 0 20000) = m := by rw [← hm]; simp [inB]
  obtain ⟨code, hcode⟩ : ∃ code, codeR z n f u step m = code := ⟨_, rfl⟩
  by_cases hz0 : code = 0
  ·
    subst hz0
    have HG := Lib.hid (show fGreatestTension z n f u k r step = ((bestI (fun y => tenI z n y k r) (lenTo z n) step).1, (bestI (fun y => tenI z n y k r) (lenTo z n) step).2, 0) by unfold fGreatestTension; rw [hm, hcode, if_pos rfl])
    rw [HG.out]
    clear HG
    obtain ⟨ht, hst, rfl⟩ := codeR_zero hcode
    obtain ⟨s0, s1⟩ := inB_true hst
    simp only [Bool.and_eq_true] at hm
    obtain ⟨hk, hr⟩ := hm
    obtain ⟨⟨n0, n1⟩, hs, ⟨L0, L1⟩, _⟩ := trackB_true ht
    obtain ⟨k0, k1⟩ := inB_true hk
    obtain ⟨r0, r1⟩ := inB_true hr
    go_enter Try.func24, Try.ntmps24
    go_wp2_with
      (first
        | (go_at_call 54; (apply Calls.mono; focus ((with_reducible apply (l07Run_v (A := A) (c := c) hask hcode _ hz hn)); (all_goals (first | (with_reducible assumption) | omega | ((repeat (first | (with_reducible assumption) | (with_reducible refine RowI.drewN ?_ _) | (with_reducible refine RowI.drew ?_) | (with_reducible refine RowI.alloc ?_ _) | (with_reducible refine RowI.below ?_ (by with_reducible assumption)))); done) | assumption | (simp; done) | (simp [*]; done))); done)); rintro e w' ⟨rfl, nq, rfl⟩))
    have hr1 := hrow.alloc (.cells #[.slice A n c, .int .i64 f, .int .i64 u] 30)
    have tb := TrackBox.new w 30 A n c f u
    have hBw : Below w.heap.size w (w.alloc (.cells #[.slice A n c, .int .i64 f, .int .i64 u] 30)) := (Below.refl _ _).alloc (Nat.le_refl _) _
    generalize w.alloc (.cells #[.slice A n c, .int .i64 f, .int .i64 u] 30) = W at *
    have t0 := tb.c0
    have t1 := tb.c1
    have t2 := tb.c2
    have HLE := Lib.hid (fun w' hr h0 => l03Length_c A n c z w.heap.size hz n1 hs w' hr h0)
    have HNE := Lib.hid (fun y y0 y1 w' hr h0 => l07Tension_c A n c z y k r w.heap.size hz n0 n1 hs y0 y1 L1 k0 k1 r0 r1 w' hr h0)
    have HNB := Lib.hid (fun y y0 y1 => tenI_bd hs n0 (x := y) k0 k1 r0 r1 y0 y1 L1)
    clear hrow hcode ht hst hask hk
    have HI := Lib.hid (bestI_spec (val := (fun y => tenI z n y k r)) (len := lenTo z n) (step := step) (HNB.out 0 (by omega) (by omega)).1 (by omega))
    go_loopw [12, 13, 14] (fun b m x wr => ∃ (q : Nat) (y p v : Int), 0 ≤ y ∧ y ≤ 6000000 ∧ lenTo z n + 1 - y ≤ q ∧ Hid (bestF (fun y => tenI z n y k r) (lenTo z n) step q y (p, v) = bestI (fun y => tenI z n y k r) (lenTo z n) step) ∧ b = .int .i64 p ∧ m = .int .i64 v ∧ x = .int .i64 y ∧ ∃ j, wr = W.drewN j) (fun _ _ x _ => (lenTo z n + 1 - intOf x).toNat)
    case atStart => exact ⟨(lenTo z n).toNat + 1, 0, 0, -1, by omega, by omega, by omega, HI, rfl, rfl, rfl, (by first | exact ⟨_, rfl⟩ | exact ⟨_, World.drewN_drewN _ _ _⟩ | exact ⟨0, rfl⟩)⟩
    case round =>
      obtain ⟨q, y, p, v, y0, y1, hq, HK, rfl, rfl, rfl, j, rfl⟩ := hrel
      by_cases hlt : y ≤ lenTo z n
      · obtain ⟨q, rfl⟩ : ∃ q', q = q' + 1 := ⟨q - 1, by omega⟩
        by_cases hg : v < tenI z n y k r
        · have HN := Lib.hid (bestF_hit (val := (fun y => tenI z n y k r)) (len := lenTo z n) (step := step) (q := q) (x := y) (s := (p, v)) hlt hg)
          go_wp2_with
            (first
              | (go_at_call 55; (refine (HLE.out _ (hr1.drewN _) t0).mono ?_); rintro e w' ⟨rfl, rfl⟩)
              | (go_at_call 50; (refine (HNE.out y y0 hlt _ (hr1.drewN _) t0).mono ?_); rintro e w' ⟨rfl, nq, rfl⟩))
          go_roundw
          case rel => exact ⟨q, y + step, y, tenI z n y k r, by omega, by omega, by omega, Lib.hid (HN.out.symm.trans HK.out), rfl, rfl, rfl, (by first | exact ⟨_, rfl⟩ | exact ⟨_, World.drewN_drewN _ _ _⟩ | exact ⟨0, rfl⟩)⟩
          case measure => simp [intOf]; omega
        · have HN := Lib.hid (bestF_on (val := (fun y => tenI z n y k r)) (len := lenTo z n) (step := step) (q := q) (x := y) (s := (p, v)) hlt hg)
          go_wp2_with
            (first
              | (go_at_call 55; (refine (HLE.out _ (hr1.drewN _) t0).mono ?_); rintro e w' ⟨rfl, rfl⟩)
              | (go_at_call 50; (refine (HNE.out y y0 hlt _ (hr1.drewN _) t0).mono ?_); rintro e w' ⟨rfl, nq, rfl⟩))
          go_roundw
          case rel => exact ⟨q, y + step, p, v, by omega, by omega, by omega, Lib.hid (HN.out.symm.trans HK.out), rfl, rfl, rfl, (by first | exact ⟨_, rfl⟩ | exact ⟨_, World.drewN_drewN _ _ _⟩ | exact ⟨0, rfl⟩)⟩
          case measure => simp [intOf]; omega
      · have HE := Lib.hid (bestF_end (val := (fun y => tenI z n y k r)) (step := step) (q := q) (s := (p, v)) hlt)
        go_wp2_with
          (first
            | (go_at_call 55; (refine (HLE.out _ (hr1.drewN _) t0).mono ?_); rintro e w' ⟨rfl, rfl⟩))
        go_returns
        exact ⟨by (rw [← HK.out, HE.out]) <;> rfl, bdrewN hBw _⟩
  ·
    have hne2 : (code != 0) = true := by simpa using hz0
    have HG := Lib.hid (show fGreatestTension z n f u k r step = (0, 0, code) by unfold fGreatestTension; rw [hm, hcode, if_neg hz0])
    rw [HG.out]
    go_enter Try.func24, Try.ntmps24
    go_wp2_with
      (first
        | (go_at_call 54; (apply Calls.mono; focus ((with_reducible apply (l07Run_v (A := A) (c := c) hask hcode _ hz hn)); (all_goals (first | (with_reducible assumption) | omega | ((repeat (first | (with_reducible assumption) | (with_reducible refine RowI.drewN ?_ _) | (with_reducible refine RowI.drew ?_) | (with_reducible refine RowI.alloc ?_ _) | (with_reducible refine RowI.below ?_ (by with_reducible assumption)))); done) | assumption | (simp; done) | (simp [*]; done))); done)); rintro e w' ⟨rfl, nq, rfl⟩))
    go_returns
    refine ⟨rfl, ?_⟩
    repeat' (first
      | (with_reducible exact Below.refl _ _)
      | (with_reducible assumption)
      | (with_reducible refine Below.alloc ?_ ?_ _)
      | (with_reducible refine Below.drew ?_)
      | (with_reducible refine bdrewN ?_ _)
      | (with_reducible refine Below.setCell ?_ ?_ _)
      | (with_reducible refine bthen (by assumption) ?_ ?_)
      | go_size)
set_option maxHeartbeats 2000000 in
theorem walk_FnExactGreatestTension (A : Option Addr) (n c : Nat) (z : List Int) (f u : Int) (k : Int) (r : Int) (step : Int) (w : World) (h : StructArg 2 w A n z) (_ : I64 f) (_ : I64 u) (_ : I64 k) (_ : I64 r) (_ : I64 step) : Calls Try.prog 7 #[.agg #[.slice A n c, .int .i64 f, .int .i64 u], .int .i64 k, .int .i64 r, .int .i64 step] w fun e w' => e = .returned (.bool true) ∧ Below w.heap.size w w' := by
  obtain ⟨hz, hmax, hr, _⟩ := h
  have HSZ := Lib.hid (szTrack_c A n c f u hmax)
  by_cases hn : n ≤ 1048576
  · rw [if_pos hn] at HSZ
    have hn1 : (0 : Int) ≤ 1048576 - n := by omega
    have tb0 := (TrackBox.new w 24 A n c f u)
    have hr0 := hr.alloc (.cells #[.slice A n c, .int .i64 f, .int .i64 u] 24)
    go_enter Try.func7, Try.ntmps7
    go_wp2_with (go_at_call 13; (refine (HSZ.out _).mono ?_); rintro e w1 ⟨rfl, hb1⟩; have tb1 := tb0.below hb1; have a10 := tb1.c0; have a11 := tb1.c1; have a12 := tb1.c2; have hr1 := hr0.below hb1)
    go_wp2_with (go_at_call 15; (refine (toTrack_c A n c z f u hz hn _ hr1).mono ?_); rintro e w2 ⟨B, rfl, hR2, hb2⟩; have tb2 := tb1.below hb2; have a20 := tb2.c0; have a21 := tb2.c1; have a22 := tb2.c2; have hr2 := hr1.below hb2)
    go_wp2_with (go_at_call 24; (refine (specGreatestTension_c B n n z f u _ _ _ hz hn _ hR2).mono ?_); rintro e w3 ⟨rfl, hb3⟩; have tb3 := tb2.below hb3; have a30 := tb3.c0; have a31 := tb3.c1; have a32 := tb3.c2; have hr3 := hr2.below hb3)
    go_wp2_with (go_at_call 15; (refine (toTrack_c A n c z f u hz hn _ hr3).mono ?_); rintro e w4 ⟨D, rfl, hR4, hb4⟩; have tb4 := (tb3.below hb4).alloc (.cells #[.slice D n n, .int .i64 f, .int .i64 u] 30); have hr4 := (hr3.below hb4).alloc (.cells #[.slice D n n, .int .i64 f, .int .i64 u] 30); have td4 := TrackBox.new w4 30 D n n f u; have hR4' := hR4.alloc (.cells #[.slice D n n, .int .i64 f, .int .i64 u] 30))
    go_wp2_with (go_at_call 25; (refine (implGreatestTension_c D n n z f u _ _ _ hz hn _ hR4').mono ?_); rintro e w5 ⟨rfl, hb5⟩; have tb5 := tb4.below hb5; have td5 := td4.below hb5; have hr5 := hr4.below hb5; have hR5 := hR4'.below hb5)
    have s0 := tb5.c0
    have s1 := tb5.c1
    have s2 := tb5.c2
    have s3 := tb5.lt
    have d0 := td5.c0
    have d1 := td5.c1
    have d2 := td5.c2
    have d3 := td5.lt
    have z1 : w.heap.size ≤ w1.heap.size := by have := hb1.size; simp only [World.size_alloc] at this; omega
    have z2 : w1.heap.size ≤ w2.heap.size := hb2.size
    have z3 : w2.heap.size ≤ w3.heap.size := hb3.size
    have z4 : w3.heap.size ≤ w4.heap.size := hb4.size
    have z5 : w4.heap.size ≤ w5.heap.size := by have := hb5.size; simp only [World.size_alloc] at this; omega
    have hB5 : Below w.heap.size w w5 := by
      repeat' (first
        | (with_reducible exact Below.refl _ _)
        | (with_reducible assumption)
        | (with_reducible refine Below.alloc ?_ ?_ _)
        | (with_reducible refine Below.drew ?_)
        | (with_reducible refine bdrewN ?_ _)
        | (with_reducible refine Below.setCell ?_ ?_ _)
        | (with_reducible refine bthen (by assumption) ?_ ?_)
        | go_size)
    clear tb0 tb1 tb2 tb3 tb4 tb5 td4 td5 hb1 hb2 hb3 hb4 hb5 a10 a11 a12 a20 a21 a22 a30 a31 a32 hr0 hr1 hr2 hr3 hr4 hR2 hR4 hR4'
    go_wp2
    first
      | go_region_held3 (fun w' => w'.cell? ⟨w.heap.size, 0, none⟩ = some (.slice A n c) ∧ w'.cell? ⟨w.heap.size, 1, none⟩ = some (.int .i64 f) ∧ w'.cell? ⟨w.heap.size, 2, none⟩ = some (.int .i64 u) ∧ w'.cell? ⟨w4.heap.size, 0, none⟩ = some (.slice D n n) ∧ w'.cell? ⟨w4.heap.size, 1, none⟩ = some (.int .i64 f) ∧ w'.cell? ⟨w4.heap.size, 2, none⟩ = some (.int .i64 u) ∧ w.heap.size < w'.heap.size ∧ w4.heap.size < w'.heap.size ∧ RowI w' A z ∧ RowI w' D z) (((try dsimp only at *); (try go_split_ands); (repeat' apply And.intro) <;> first | (with_reducible assumption) | (rw [qc _ _ (by with_reducible assumption)]; with_reducible assumption) | (with_reducible exact qz _ (by with_reducible assumption)) | (with_reducible exact RowI.below (by with_reducible assumption) (by with_reducible assumption)) | (simp [*, go_sem]; done) | omega | (refine RowI.drew ?_; simp [*]; done) | ((repeat (first | (with_reducible assumption) | (with_reducible refine RowI.drew ?_) | (with_reducible refine RowI.drewN ?_ _) | (with_reducible refine RowI.alloc ?_ _) | (with_reducible refine RowI.below ?_ (by with_reducible assumption)))); done) | (refine RowI.below ?_ (by assumption); first | (simp [*]; done) | (refine RowI.drew ?_; simp [*]; done))))
        (first
          | (go_at_call 15; (apply Calls.mono; focus ((with_reducible apply (toTrack_c A n c z f u hz hn)); (all_goals (first | (with_reducible assumption) | (simp [*]; done))); done)); rintro e w' ⟨B', rfl, hR', hb⟩; obtain ⟨qc, qf, qz, qs⟩ := bfacts hb; (try simp only [World.size_alloc, World.size_setCell, World.size_drew, World.heap_drewN] at qs))
          | (go_at_call 17; (apply Calls.mono; focus ((with_reducible apply (eqTrack_c _ _ n _ _ z f u hz hn)); (all_goals (first | (with_reducible assumption) | (simp [*]; done))); done)); rintro e w' ⟨rfl, hb⟩; obtain ⟨qc, qf, qz, qs⟩ := bfacts hb; (try simp only [World.size_alloc, World.size_setCell, World.size_drew, World.heap_drewN] at qs)))
      | fail
    go_wp2
    go_returns
    refine ⟨by simp, ?_⟩
    repeat' (first
      | (with_reducible exact Below.refl _ _)
      | (with_reducible assumption)
      | (with_reducible refine Below.alloc ?_ ?_ _)
      | (with_reducible refine Below.drew ?_)
      | (with_reducible refine bdrewN ?_ _)
      | (with_reducible refine Below.setCell ?_ ?_ _)
      | (with_reducible refine bthen (by assumption) ?_ ?_)
      | go_size)
  · rw [if_neg hn] at HSZ
    go_enter Try.func7, Try.ntmps7
    go_wp2_with (go_at_call 13; (refine (HSZ.out _).mono ?_); rintro e w1 ⟨rfl, hb1⟩)
    go_returns
    refine ⟨by simp, ?_⟩
    repeat' (first
      | (with_reducible exact Below.refl _ _)
      | (with_reducible assumption)
      | (with_reducible refine Below.alloc ?_ ?_ _)
      | (with_reducible refine Below.drew ?_)
      | (with_reducible refine bdrewN ?_ _)
      | (with_reducible refine Below.setCell ?_ ?_ _)
      | (with_reducible refine bthen (by assumption) ?_ ?_)
      | go_size)
end Go.Proofs.Ytmkfkpfblnblgaa
