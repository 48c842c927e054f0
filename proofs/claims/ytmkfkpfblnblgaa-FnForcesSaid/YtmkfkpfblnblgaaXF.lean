/- The greatest net pull of a ride. -/
import Derived.Test.YtmkfkpfblnblgaaXE
namespace Go.Proofs.Ytmkfkpfblnblgaa
open Go.ChangeShapes Go.WideShapes Go.ChangeAt Go.RowKit
set_option linter.unusedVariables false
set_option linter.unusedSimpArgs false

def fGreatestNet (z : List Int) (n : Nat) (f u k o r step : Int) : Int × Int × Int := if codeR z n f u step (inB k 0 100000 && inB o 0 100000 && inB r 0 20000) = 0 then ((bestI (fun y => absI (netI z n y k o r)) (lenTo z n) step).1, netI z n ((bestI (fun y => absI (netI z n y k o r)) (lenTo z n) step).1) k o r, 0) else (0, 0, codeR z n f u step (inB k 0 100000 && inB o 0 100000 && inB r 0 20000))
set_option maxHeartbeats 4000000 in
theorem implGreatestNet_c (A : Option Addr) (n c : Nat) (z : List Int) (f u k o r step : Int) (hz : z.length = n * 2) (hn : n ≤ 1048576) (w : World) (hrow : RowI w A z) : Calls Try.prog 33 #[.agg #[.slice A n c, .int .i64 f, .int .i64 u], .int .i64 k, .int .i64 o, .int .i64 r, .int .i64 step] w fun e w' => e = .returned (.tuple #[.int .i64 (fGreatestNet z n f u k o r step).1, .int .i64 (fGreatestNet z n f u k o r step).2.1, .int .i64 (fGreatestNet z n f u k o r step).2.2]) ∧ Below w.heap.size w w' := by
  cases hk : inB k 0 100000
  ·
    have hm : (inB k 0 100000 && inB o 0 100000 && inB r 0 20000) = false := by simp [hk]
    obtain ⟨code, hcode⟩ : ∃ code, codeR z n f u step false = code := ⟨_, rfl⟩
    have hne : code ≠ 0 := by rw [← hcode]; exact codeR_false
    have hne2 : (code != 0) = true := by simpa using hne
    have HG := Lib.hid (show fGreatestNet z n f u k o r step = (0, 0, code) by unfold fGreatestNet; rw [hm, hcode, if_neg hne])
    rw [HG.out]
    go_enter Try.func33, Try.ntmps33
    go_wp2
    refine wp_region_held_drew (S := fun w' => w'.cell? ⟨w.heap.size, 0, none⟩ = some (.slice (A) n c) ∧ w'.cell? ⟨w.heap.size, 1, none⟩ = some (.int .i64 (f)) ∧ w'.cell? ⟨w.heap.size, 2, none⟩ = some (.int .i64 (u)) ∧ w.heap.size < w'.heap.size ∧ RowI w' (A) z ∧ w'.cell? ⟨w.heap.size + 1, 0, none⟩ = some (.int .i64 k) ∧ w.heap.size + 1 < w'.heap.size ∧ w'.cell? ⟨w.heap.size + 1 + 1, 0, none⟩ = some (.int .i64 o) ∧ w.heap.size + 1 + 1 < w'.heap.size ∧ w'.cell? ⟨w.heap.size + 1 + 1 + 1, 0, none⟩ = some (.int .i64 r) ∧ w.heap.size + 1 + 1 + 1 < w'.heap.size) (by kernel_rfl) ?_ (fun hHeld => ?_)
    · (((try dsimp only at *); (try go_split_ands); (repeat' apply And.intro) <;> first | (with_reducible assumption) | (rw [qc _ _ (by with_reducible assumption)]; with_reducible assumption) | (with_reducible exact qz _ (by with_reducible assumption)) | (with_reducible exact RowI.below (by with_reducible assumption) (by with_reducible assumption)) | (simp [*, go_sem]; done) | omega | (refine RowI.drew ?_; simp [*]; done) | ((repeat (first | (with_reducible assumption) | (with_reducible refine RowI.drew ?_) | (with_reducible refine RowI.drewN ?_ _) | (with_reducible refine RowI.alloc ?_ _) | (with_reducible refine RowI.below ?_ (by with_reducible assumption)))); done) | (refine RowI.below ?_ (by assumption); first | (simp [*]; done) | (refine RowI.drew ?_; simp [*]; done))))
    refine wpAnyH_take (i := 0) (v := ?_) rfl (by kernel_rfl) (by kernel_rfl) (by kernel_rfl) (fun _ _ _ h => h) (Or.inl ⟨by rfl, ?_⟩) (by assumption) ?_
    rotate_left
    · (intro w hSw; (try dsimp only at hSw); go_simp; (try with_reducible rfl))
    (try simp only [Act.put, List.getElem_toArray, List.getElem_cons_zero, List.getElem_cons_succ, List.setIfInBounds_toArray, List.set_cons_zero, List.set_cons_succ])
    refine wpAnyH_take (i := 1) (v := ?_) rfl (by kernel_rfl) (by kernel_rfl) (by kernel_rfl) (fun _ _ _ h => h) (Or.inl ⟨by rfl, ?_⟩) (by assumption) ?_
    rotate_left
    · (intro w hSw; (try dsimp only at hSw); go_simp; (try with_reducible rfl))
    (try simp only [Act.put, List.getElem_toArray, List.getElem_cons_zero, List.getElem_cons_succ, List.setIfInBounds_toArray, List.set_cons_zero, List.set_cons_succ])
    refine wpAnyH_take (i := 2) (v := ?_) rfl (by kernel_rfl) (by kernel_rfl) (by kernel_rfl) (fun _ _ _ h => h) (Or.inl ⟨by rfl, ?_⟩) (by assumption) ?_
    rotate_left
    · (intro w hSw; (try dsimp only at hSw); go_simp; (try with_reducible rfl))
    (try simp only [Act.put, List.getElem_toArray, List.getElem_cons_zero, List.getElem_cons_succ, List.setIfInBounds_toArray, List.set_cons_zero, List.set_cons_succ])
    refine wpAnyH_ready (rs := [3]) (by kernel_rfl) (by simp) ?_
    refine AllReadyH.cons rfl (fun K hK => ?_) AllReadyH.nil
    go_simp
    (first
      | (go_at_call 44; (apply Calls.mono; focus ((with_reducible apply (isKilos_v hk)); (all_goals (first | (with_reducible assumption) | omega | ((repeat (first | (with_reducible assumption) | (with_reducible refine RowI.drewN ?_ _) | (with_reducible refine RowI.drew ?_) | (with_reducible refine RowI.alloc ?_ _) | (with_reducible refine RowI.below ?_ (by with_reducible assumption)))); done) | assumption | (simp; done) | (simp [*]; done))); done)); rintro e w' ⟨rfl, rfl⟩)
      | (go_at_call 56; (apply Calls.mono; focus ((with_reducible apply (ridden_v hcode hz hn)); (all_goals (first | (with_reducible assumption) | omega | ((repeat (first | (with_reducible assumption) | (with_reducible refine RowI.drewN ?_ _) | (with_reducible refine RowI.drew ?_) | (with_reducible refine RowI.alloc ?_ _) | (with_reducible refine RowI.below ?_ (by with_reducible assumption)))); done) | assumption | (simp; done) | (simp [*]; done))); done)); rintro e w' ⟨rfl, hb⟩; obtain ⟨qc, qf, qz, qs⟩ := bfacts hb; (try simp only [World.size_alloc, World.size_setCell, World.size_drew, World.heap_drewN] at qs)))
    (try go_wp2_with fail)
    refine hK.out _ _ ?_ (fun hHeld => ?_)
    · (((try dsimp only at *); (try go_split_ands); (repeat' apply And.intro) <;> first | (with_reducible assumption) | (rw [qc _ _ (by with_reducible assumption)]; with_reducible assumption) | (with_reducible exact qz _ (by with_reducible assumption)) | (with_reducible exact RowI.below (by with_reducible assumption) (by with_reducible assumption)) | (simp [*, go_sem]; done) | omega | (refine RowI.drew ?_; simp [*]; done) | ((repeat (first | (with_reducible assumption) | (with_reducible refine RowI.drew ?_) | (with_reducible refine RowI.drewN ?_ _) | (with_reducible refine RowI.alloc ?_ _) | (with_reducible refine RowI.below ?_ (by with_reducible assumption)))); done) | (refine RowI.below ?_ (by assumption); first | (simp [*]; done) | (refine RowI.drew ?_; simp [*]; done))))
    clear hK K
    (try simp only [Act.put, List.getElem_toArray, List.getElem_cons_zero, List.getElem_cons_succ, List.setIfInBounds_toArray, List.set_cons_zero, List.set_cons_succ])
    refine wpAnyH_take (i := 4) (v := ?_) rfl (by kernel_rfl) (by kernel_rfl) (by kernel_rfl) (fun _ _ _ h => h) (Or.inl ⟨by rfl, ?_⟩) (by assumption) ?_
    rotate_left
    · (intro w hSw; (try dsimp only at hSw); go_simp; (try with_reducible rfl))
    (try simp only [Act.put, List.getElem_toArray, List.getElem_cons_zero, List.getElem_cons_succ, List.setIfInBounds_toArray, List.set_cons_zero, List.set_cons_succ])
    refine wpAnyH_take (i := 5) (v := undef) rfl (by kernel_rfl) (by kernel_rfl) (by kernel_rfl) (fun _ _ _ h => h) (Or.inr ⟨by first | kernel_rfl | rfl, rfl⟩) (by assumption) ?_
    (try simp only [Act.put, List.getElem_toArray, List.getElem_cons_zero, List.getElem_cons_succ, List.setIfInBounds_toArray, List.set_cons_zero, List.set_cons_succ])
    refine wpAnyH_take (i := 6) (v := undef) rfl (by kernel_rfl) (by kernel_rfl) (by kernel_rfl) (fun _ _ _ h => h) (Or.inr ⟨by first | kernel_rfl | rfl, rfl⟩) (by assumption) ?_
    (try simp only [Act.put, List.getElem_toArray, List.getElem_cons_zero, List.getElem_cons_succ, List.setIfInBounds_toArray, List.set_cons_zero, List.set_cons_succ])
    refine wpAnyH_take (i := 7) (v := ?_) rfl (by kernel_rfl) (by kernel_rfl) (by kernel_rfl) (fun _ _ _ h => h) (Or.inl ⟨by rfl, ?_⟩) (by assumption) ?_
    rotate_left
    · (intro w hSw; (try dsimp only at hSw); go_simp; (try with_reducible rfl))
    (try simp only [Act.put, List.getElem_toArray, List.getElem_cons_zero, List.getElem_cons_succ, List.setIfInBounds_toArray, List.set_cons_zero, List.set_cons_succ])
    refine wpAnyH_take (i := 8) (v := ?_) rfl (by kernel_rfl) (by kernel_rfl) (by kernel_rfl) (fun _ _ _ h => h) (Or.inl ⟨by rfl, ?_⟩) (by assumption) ?_
    rotate_left
    · (intro w hSw; (try dsimp only at hSw); go_simp; (try with_reducible rfl))
    (try simp only [Act.put, List.getElem_toArray, List.getElem_cons_zero, List.getElem_cons_succ, List.setIfInBounds_toArray, List.set_cons_zero, List.set_cons_succ])
    refine wpAnyH_take (i := 9) (v := undef) rfl (by kernel_rfl) (by kernel_rfl) (by kernel_rfl) (fun _ _ _ h => h) (Or.inr ⟨by first | kernel_rfl | rfl, rfl⟩) (by assumption) ?_
    (try simp only [Act.put, List.getElem_toArray, List.getElem_cons_zero, List.getElem_cons_succ, List.setIfInBounds_toArray, List.set_cons_zero, List.set_cons_succ])
    refine wpAnyH_take (i := 10) (v := undef) rfl (by kernel_rfl) (by kernel_rfl) (by kernel_rfl) (fun _ _ _ h => h) (Or.inr ⟨by first | kernel_rfl | rfl, rfl⟩) (by assumption) ?_
    (try simp only [Act.put, List.getElem_toArray, List.getElem_cons_zero, List.getElem_cons_succ, List.setIfInBounds_toArray, List.set_cons_zero, List.set_cons_succ])
    refine wpAnyH_take (i := 11) (v := ?_) rfl (by kernel_rfl) (by kernel_rfl) (by kernel_rfl) (fun _ _ _ h => h) (Or.inl ⟨by rfl, ?_⟩) (by assumption) ?_
    rotate_left
    · (intro w hSw; (try dsimp only at hSw); go_simp; (try with_reducible rfl))
    (try simp only [Act.put, List.getElem_toArray, List.getElem_cons_zero, List.getElem_cons_succ, List.setIfInBounds_toArray, List.set_cons_zero, List.set_cons_succ])
    refine wpAnyH_ready (rs := [12]) (by kernel_rfl) (by simp) ?_
    refine AllReadyH.cons rfl (fun K hK => ?_) AllReadyH.nil
    go_simp
    (first
      | (go_at_call 44; (apply Calls.mono; focus ((with_reducible apply (isKilos_v hk)); (all_goals (first | (with_reducible assumption) | omega | ((repeat (first | (with_reducible assumption) | (with_reducible refine RowI.drewN ?_ _) | (with_reducible refine RowI.drew ?_) | (with_reducible refine RowI.alloc ?_ _) | (with_reducible refine RowI.below ?_ (by with_reducible assumption)))); done) | assumption | (simp; done) | (simp [*]; done))); done)); rintro e w' ⟨rfl, rfl⟩)
      | (go_at_call 56; (apply Calls.mono; focus ((with_reducible apply (ridden_v hcode hz hn)); (all_goals (first | (with_reducible assumption) | omega | ((repeat (first | (with_reducible assumption) | (with_reducible refine RowI.drewN ?_ _) | (with_reducible refine RowI.drew ?_) | (with_reducible refine RowI.alloc ?_ _) | (with_reducible refine RowI.below ?_ (by with_reducible assumption)))); done) | assumption | (simp; done) | (simp [*]; done))); done)); rintro e w' ⟨rfl, hb⟩; obtain ⟨qc, qf, qz, qs⟩ := bfacts hb; (try simp only [World.size_alloc, World.size_setCell, World.size_drew, World.heap_drewN] at qs)))
    (try go_wp2_with fail)
    refine hK.out _ _ ?_ (fun hHeld => ?_)
    · (((try dsimp only at *); (try go_split_ands); (repeat' apply And.intro) <;> first | (with_reducible assumption) | (rw [qc _ _ (by with_reducible assumption)]; with_reducible assumption) | (with_reducible exact qz _ (by with_reducible assumption)) | (with_reducible exact RowI.below (by with_reducible assumption) (by with_reducible assumption)) | (simp [*, go_sem]; done) | omega | (refine RowI.drew ?_; simp [*]; done) | ((repeat (first | (with_reducible assumption) | (with_reducible refine RowI.drew ?_) | (with_reducible refine RowI.drewN ?_ _) | (with_reducible refine RowI.alloc ?_ _) | (with_reducible refine RowI.below ?_ (by with_reducible assumption)))); done) | (refine RowI.below ?_ (by assumption); first | (simp [*]; done) | (refine RowI.drew ?_; simp [*]; done))))
    clear hK K
    (try simp only [Act.put, List.getElem_toArray, List.getElem_cons_zero, List.getElem_cons_succ, List.setIfInBounds_toArray, List.set_cons_zero, List.set_cons_succ])
    refine wpAnyH_take (i := 13) (v := ?_) rfl (by kernel_rfl) (by kernel_rfl) (by kernel_rfl) (fun _ _ _ h => h) (Or.inl ⟨by rfl, ?_⟩) (by assumption) ?_
    rotate_left
    · (intro w hSw; (try dsimp only at hSw); go_simp; (try with_reducible rfl))
    (try simp only [Act.put, List.getElem_toArray, List.getElem_cons_zero, List.getElem_cons_succ, List.setIfInBounds_toArray, List.set_cons_zero, List.set_cons_succ])
    refine wpAnyH_done (by kernel_rfl) ?_ _
    go_wp2
    go_returns
    refine ⟨rfl, ?_⟩
    repeat' (first
      | (with_reducible exact Below.refl _ _)
      | (with_reducible assumption)
      | (with_reducible refine Below.alloc ?_ ?_ _)
      | (with_reducible refine Below.drew ?_)
      | (with_reducible refine bdrewN ?_ _)
      | (with_reducible refine Below.setCell ?_ ?_ _)
      | (with_reducible refine bthen (by assumption) ?_ ?_)
      | go_size)
  ·
    cases ho : inB o 0 100000
    ·
      have hm : (inB k 0 100000 && inB o 0 100000 && inB r 0 20000) = false := by simp [hk, ho]
      obtain ⟨code, hcode⟩ : ∃ code, codeR z n f u step false = code := ⟨_, rfl⟩
      have hne : code ≠ 0 := by rw [← hcode]; exact codeR_false
      have hne2 : (code != 0) = true := by simpa using hne
      have HG := Lib.hid (show fGreatestNet z n f u k o r step = (0, 0, code) by unfold fGreatestNet; rw [hm, hcode, if_neg hne])
      rw [HG.out]
      go_enter Try.func33, Try.ntmps33
      go_wp2
      refine wp_region_held_drew (S := fun w' => w'.cell? ⟨w.heap.size, 0, none⟩ = some (.slice (A) n c) ∧ w'.cell? ⟨w.heap.size, 1, none⟩ = some (.int .i64 (f)) ∧ w'.cell? ⟨w.heap.size, 2, none⟩ = some (.int .i64 (u)) ∧ w.heap.size < w'.heap.size ∧ RowI w' (A) z ∧ w'.cell? ⟨w.heap.size + 1, 0, none⟩ = some (.int .i64 k) ∧ w.heap.size + 1 < w'.heap.size ∧ w'.cell? ⟨w.heap.size + 1 + 1, 0, none⟩ = some (.int .i64 o) ∧ w.heap.size + 1 + 1 < w'.heap.size ∧ w'.cell? ⟨w.heap.size + 1 + 1 + 1, 0, none⟩ = some (.int .i64 r) ∧ w.heap.size + 1 + 1 + 1 < w'.heap.size) (by kernel_rfl) ?_ (fun hHeld => ?_)
      · (((try dsimp only at *); (try go_split_ands); (repeat' apply And.intro) <;> first | (with_reducible assumption) | (rw [qc _ _ (by with_reducible assumption)]; with_reducible assumption) | (with_reducible exact qz _ (by with_reducible assumption)) | (with_reducible exact RowI.below (by with_reducible assumption) (by with_reducible assumption)) | (simp [*, go_sem]; done) | omega | (refine RowI.drew ?_; simp [*]; done) | ((repeat (first | (with_reducible assumption) | (with_reducible refine RowI.drew ?_) | (with_reducible refine RowI.drewN ?_ _) | (with_reducible refine RowI.alloc ?_ _) | (with_reducible refine RowI.below ?_ (by with_reducible assumption)))); done) | (refine RowI.below ?_ (by assumption); first | (simp [*]; done) | (refine RowI.drew ?_; simp [*]; done))))
      refine wpAnyH_take (i := 0) (v := ?_) rfl (by kernel_rfl) (by kernel_rfl) (by kernel_rfl) (fun _ _ _ h => h) (Or.inl ⟨by rfl, ?_⟩) (by assumption) ?_
      rotate_left
      · (intro w hSw; (try dsimp only at hSw); go_simp; (try with_reducible rfl))
      (try simp only [Act.put, List.getElem_toArray, List.getElem_cons_zero, List.getElem_cons_succ, List.setIfInBounds_toArray, List.set_cons_zero, List.set_cons_succ])
      refine wpAnyH_take (i := 1) (v := ?_) rfl (by kernel_rfl) (by kernel_rfl) (by kernel_rfl) (fun _ _ _ h => h) (Or.inl ⟨by rfl, ?_⟩) (by assumption) ?_
      rotate_left
      · (intro w hSw; (try dsimp only at hSw); go_simp; (try with_reducible rfl))
      (try simp only [Act.put, List.getElem_toArray, List.getElem_cons_zero, List.getElem_cons_succ, List.setIfInBounds_toArray, List.set_cons_zero, List.set_cons_succ])
      refine wpAnyH_take (i := 2) (v := ?_) rfl (by kernel_rfl) (by kernel_rfl) (by kernel_rfl) (fun _ _ _ h => h) (Or.inl ⟨by rfl, ?_⟩) (by assumption) ?_
      rotate_left
      · (intro w hSw; (try dsimp only at hSw); go_simp; (try with_reducible rfl))
      (try simp only [Act.put, List.getElem_toArray, List.getElem_cons_zero, List.getElem_cons_succ, List.setIfInBounds_toArray, List.set_cons_zero, List.set_cons_succ])
      refine wpAnyH_ready (rs := [3]) (by kernel_rfl) (by simp) ?_
      refine AllReadyH.cons rfl (fun K hK => ?_) AllReadyH.nil
      go_simp
      (first
        | (go_at_call 44; (apply Calls.mono; focus ((with_reducible apply (isKilos_v hk)); (all_goals (first | (with_reducible assumption) | omega | ((repeat (first | (with_reducible assumption) | (with_reducible refine RowI.drewN ?_ _) | (with_reducible refine RowI.drew ?_) | (with_reducible refine RowI.alloc ?_ _) | (with_reducible refine RowI.below ?_ (by with_reducible assumption)))); done) | assumption | (simp; done) | (simp [*]; done))); done)); rintro e w' ⟨rfl, rfl⟩)
        | (go_at_call 44; (apply Calls.mono; focus ((with_reducible apply (isKilos_v ho)); (all_goals (first | (with_reducible assumption) | omega | ((repeat (first | (with_reducible assumption) | (with_reducible refine RowI.drewN ?_ _) | (with_reducible refine RowI.drew ?_) | (with_reducible refine RowI.alloc ?_ _) | (with_reducible refine RowI.below ?_ (by with_reducible assumption)))); done) | assumption | (simp; done) | (simp [*]; done))); done)); rintro e w' ⟨rfl, rfl⟩)
        | (go_at_call 56; (apply Calls.mono; focus ((with_reducible apply (ridden_v hcode hz hn)); (all_goals (first | (with_reducible assumption) | omega | ((repeat (first | (with_reducible assumption) | (with_reducible refine RowI.drewN ?_ _) | (with_reducible refine RowI.drew ?_) | (with_reducible refine RowI.alloc ?_ _) | (with_reducible refine RowI.below ?_ (by with_reducible assumption)))); done) | assumption | (simp; done) | (simp [*]; done))); done)); rintro e w' ⟨rfl, hb⟩; obtain ⟨qc, qf, qz, qs⟩ := bfacts hb; (try simp only [World.size_alloc, World.size_setCell, World.size_drew, World.heap_drewN] at qs)))
      (try go_wp2_with fail)
      refine hK.out _ _ ?_ (fun hHeld => ?_)
      · (((try dsimp only at *); (try go_split_ands); (repeat' apply And.intro) <;> first | (with_reducible assumption) | (rw [qc _ _ (by with_reducible assumption)]; with_reducible assumption) | (with_reducible exact qz _ (by with_reducible assumption)) | (with_reducible exact RowI.below (by with_reducible assumption) (by with_reducible assumption)) | (simp [*, go_sem]; done) | omega | (refine RowI.drew ?_; simp [*]; done) | ((repeat (first | (with_reducible assumption) | (with_reducible refine RowI.drew ?_) | (with_reducible refine RowI.drewN ?_ _) | (with_reducible refine RowI.alloc ?_ _) | (with_reducible refine RowI.below ?_ (by with_reducible assumption)))); done) | (refine RowI.below ?_ (by assumption); first | (simp [*]; done) | (refine RowI.drew ?_; simp [*]; done))))
      clear hK K
      (try simp only [Act.put, List.getElem_toArray, List.getElem_cons_zero, List.getElem_cons_succ, List.setIfInBounds_toArray, List.set_cons_zero, List.set_cons_succ])
      refine wpAnyH_take (i := 4) (v := ?_) rfl (by kernel_rfl) (by kernel_rfl) (by kernel_rfl) (fun _ _ _ h => h) (Or.inl ⟨by rfl, ?_⟩) (by assumption) ?_
      rotate_left
      · (intro w hSw; (try dsimp only at hSw); go_simp; (try with_reducible rfl))
      (try simp only [Act.put, List.getElem_toArray, List.getElem_cons_zero, List.getElem_cons_succ, List.setIfInBounds_toArray, List.set_cons_zero, List.set_cons_succ])
      refine wpAnyH_take (i := 5) (v := ?_) rfl (by kernel_rfl) (by kernel_rfl) (by kernel_rfl) (fun _ _ _ h => h) (Or.inl ⟨by rfl, ?_⟩) (by assumption) ?_
      rotate_left
      · (intro w hSw; (try dsimp only at hSw); go_simp; (try with_reducible rfl))
      (try simp only [Act.put, List.getElem_toArray, List.getElem_cons_zero, List.getElem_cons_succ, List.setIfInBounds_toArray, List.set_cons_zero, List.set_cons_succ])
      refine wpAnyH_ready (rs := [6]) (by kernel_rfl) (by simp) ?_
      refine AllReadyH.cons rfl (fun K hK => ?_) AllReadyH.nil
      go_simp
      (first
        | (go_at_call 44; (apply Calls.mono; focus ((with_reducible apply (isKilos_v hk)); (all_goals (first | (with_reducible assumption) | omega | ((repeat (first | (with_reducible assumption) | (with_reducible refine RowI.drewN ?_ _) | (with_reducible refine RowI.drew ?_) | (with_reducible refine RowI.alloc ?_ _) | (with_reducible refine RowI.below ?_ (by with_reducible assumption)))); done) | assumption | (simp; done) | (simp [*]; done))); done)); rintro e w' ⟨rfl, rfl⟩)
        | (go_at_call 44; (apply Calls.mono; focus ((with_reducible apply (isKilos_v ho)); (all_goals (first | (with_reducible assumption) | omega | ((repeat (first | (with_reducible assumption) | (with_reducible refine RowI.drewN ?_ _) | (with_reducible refine RowI.drew ?_) | (with_reducible refine RowI.alloc ?_ _) | (with_reducible refine RowI.below ?_ (by with_reducible assumption)))); done) | assumption | (simp; done) | (simp [*]; done))); done)); rintro e w' ⟨rfl, rfl⟩)
        | (go_at_call 56; (apply Calls.mono; focus ((with_reducible apply (ridden_v hcode hz hn)); (all_goals (first | (with_reducible assumption) | omega | ((repeat (first | (with_reducible assumption) | (with_reducible refine RowI.drewN ?_ _) | (with_reducible refine RowI.drew ?_) | (with_reducible refine RowI.alloc ?_ _) | (with_reducible refine RowI.below ?_ (by with_reducible assumption)))); done) | assumption | (simp; done) | (simp [*]; done))); done)); rintro e w' ⟨rfl, hb⟩; obtain ⟨qc, qf, qz, qs⟩ := bfacts hb; (try simp only [World.size_alloc, World.size_setCell, World.size_drew, World.heap_drewN] at qs)))
      (try go_wp2_with fail)
      refine hK.out _ _ ?_ (fun hHeld => ?_)
      · (((try dsimp only at *); (try go_split_ands); (repeat' apply And.intro) <;> first | (with_reducible assumption) | (rw [qc _ _ (by with_reducible assumption)]; with_reducible assumption) | (with_reducible exact qz _ (by with_reducible assumption)) | (with_reducible exact RowI.below (by with_reducible assumption) (by with_reducible assumption)) | (simp [*, go_sem]; done) | omega | (refine RowI.drew ?_; simp [*]; done) | ((repeat (first | (with_reducible assumption) | (with_reducible refine RowI.drew ?_) | (with_reducible refine RowI.drewN ?_ _) | (with_reducible refine RowI.alloc ?_ _) | (with_reducible refine RowI.below ?_ (by with_reducible assumption)))); done) | (refine RowI.below ?_ (by assumption); first | (simp [*]; done) | (refine RowI.drew ?_; simp [*]; done))))
      clear hK K
      (try simp only [Act.put, List.getElem_toArray, List.getElem_cons_zero, List.getElem_cons_succ, List.setIfInBounds_toArray, List.set_cons_zero, List.set_cons_succ])
      refine wpAnyH_take (i := 7) (v := ?_) rfl (by kernel_rfl) (by kernel_rfl) (by kernel_rfl) (fun _ _ _ h => h) (Or.inl ⟨by rfl, ?_⟩) (by assumption) ?_
      rotate_left
      · (intro w hSw; (try dsimp only at hSw); go_simp; (try with_reducible rfl))
      (try simp only [Act.put, List.getElem_toArray, List.getElem_cons_zero, List.getElem_cons_succ, List.setIfInBounds_toArray, List.set_cons_zero, List.set_cons_succ])
      refine wpAnyH_take (i := 8) (v := ?_) rfl (by kernel_rfl) (by kernel_rfl) (by kernel_rfl) (fun _ _ _ h => h) (Or.inl ⟨by rfl, ?_⟩) (by assumption) ?_
      rotate_left
      · (intro w hSw; (try dsimp only at hSw); go_simp; (try with_reducible rfl))
      (try simp only [Act.put, List.getElem_toArray, List.getElem_cons_zero, List.getElem_cons_succ, List.setIfInBounds_toArray, List.set_cons_zero, List.set_cons_succ])
      refine wpAnyH_take (i := 9) (v := undef) rfl (by kernel_rfl) (by kernel_rfl) (by kernel_rfl) (fun _ _ _ h => h) (Or.inr ⟨by first | kernel_rfl | rfl, rfl⟩) (by assumption) ?_
      (try simp only [Act.put, List.getElem_toArray, List.getElem_cons_zero, List.getElem_cons_succ, List.setIfInBounds_toArray, List.set_cons_zero, List.set_cons_succ])
      refine wpAnyH_take (i := 10) (v := undef) rfl (by kernel_rfl) (by kernel_rfl) (by kernel_rfl) (fun _ _ _ h => h) (Or.inr ⟨by first | kernel_rfl | rfl, rfl⟩) (by assumption) ?_
      (try simp only [Act.put, List.getElem_toArray, List.getElem_cons_zero, List.getElem_cons_succ, List.setIfInBounds_toArray, List.set_cons_zero, List.set_cons_succ])
      refine wpAnyH_take (i := 11) (v := ?_) rfl (by kernel_rfl) (by kernel_rfl) (by kernel_rfl) (fun _ _ _ h => h) (Or.inl ⟨by rfl, ?_⟩) (by assumption) ?_
      rotate_left
      · (intro w hSw; (try dsimp only at hSw); go_simp; (try with_reducible rfl))
      (try simp only [Act.put, List.getElem_toArray, List.getElem_cons_zero, List.getElem_cons_succ, List.setIfInBounds_toArray, List.set_cons_zero, List.set_cons_succ])
      refine wpAnyH_ready (rs := [12]) (by kernel_rfl) (by simp) ?_
      refine AllReadyH.cons rfl (fun K hK => ?_) AllReadyH.nil
      go_simp
      (first
        | (go_at_call 44; (apply Calls.mono; focus ((with_reducible apply (isKilos_v hk)); (all_goals (first | (with_reducible assumption) | omega | ((repeat (first | (with_reducible assumption) | (with_reducible refine RowI.drewN ?_ _) | (with_reducible refine RowI.drew ?_) | (with_reducible refine RowI.alloc ?_ _) | (with_reducible refine RowI.below ?_ (by with_reducible assumption)))); done) | assumption | (simp; done) | (simp [*]; done))); done)); rintro e w' ⟨rfl, rfl⟩)
        | (go_at_call 44; (apply Calls.mono; focus ((with_reducible apply (isKilos_v ho)); (all_goals (first | (with_reducible assumption) | omega | ((repeat (first | (with_reducible assumption) | (with_reducible refine RowI.drewN ?_ _) | (with_reducible refine RowI.drew ?_) | (with_reducible refine RowI.alloc ?_ _) | (with_reducible refine RowI.below ?_ (by with_reducible assumption)))); done) | assumption | (simp; done) | (simp [*]; done))); done)); rintro e w' ⟨rfl, rfl⟩)
        | (go_at_call 56; (apply Calls.mono; focus ((with_reducible apply (ridden_v hcode hz hn)); (all_goals (first | (with_reducible assumption) | omega | ((repeat (first | (with_reducible assumption) | (with_reducible refine RowI.drewN ?_ _) | (with_reducible refine RowI.drew ?_) | (with_reducible refine RowI.alloc ?_ _) | (with_reducible refine RowI.below ?_ (by with_reducible assumption)))); done) | assumption | (simp; done) | (simp [*]; done))); done)); rintro e w' ⟨rfl, hb⟩; obtain ⟨qc, qf, qz, qs⟩ := bfacts hb; (try simp only [World.size_alloc, World.size_setCell, World.size_drew, World.heap_drewN] at qs)))
      (try go_wp2_with fail)
      refine hK.out _ _ ?_ (fun hHeld => ?_)
      · (((try dsimp only at *); (try go_split_ands); (repeat' apply And.intro) <;> first | (with_reducible assumption) | (rw [qc _ _ (by with_reducible assumption)]; with_reducible assumption) | (with_reducible exact qz _ (by with_reducible assumption)) | (with_reducible exact RowI.below (by with_reducible assumption) (by with_reducible assumption)) | (simp [*, go_sem]; done) | omega | (refine RowI.drew ?_; simp [*]; done) | ((repeat (first | (with_reducible assumption) | (with_reducible refine RowI.drew ?_) | (with_reducible refine RowI.drewN ?_ _) | (with_reducible refine RowI.alloc ?_ _) | (with_reducible refine RowI.below ?_ (by with_reducible assumption)))); done) | (refine RowI.below ?_ (by assumption); first | (simp [*]; done) | (refine RowI.drew ?_; simp [*]; done))))
      clear hK K
      (try simp only [Act.put, List.getElem_toArray, List.getElem_cons_zero, List.getElem_cons_succ, List.setIfInBounds_toArray, List.set_cons_zero, List.set_cons_succ])
      refine wpAnyH_take (i := 13) (v := ?_) rfl (by kernel_rfl) (by kernel_rfl) (by kernel_rfl) (fun _ _ _ h => h) (Or.inl ⟨by rfl, ?_⟩) (by assumption) ?_
      rotate_left
      · (intro w hSw; (try dsimp only at hSw); go_simp; (try with_reducible rfl))
      (try simp only [Act.put, List.getElem_toArray, List.getElem_cons_zero, List.getElem_cons_succ, List.setIfInBounds_toArray, List.set_cons_zero, List.set_cons_succ])
      refine wpAnyH_done (by kernel_rfl) ?_ _
      go_wp2
      go_returns
      refine ⟨rfl, ?_⟩
      repeat' (first
        | (with_reducible exact Below.refl _ _)
        | (with_reducible assumption)
        | (with_reducible refine Below.alloc ?_ ?_ _)
        | (with_reducible refine Below.drew ?_)
        | (with_reducible refine bdrewN ?_ _)
        | (with_reducible refine Below.setCell ?_ ?_ _)
        | (with_reducible refine bthen (by assumption) ?_ ?_)
        | go_size)
    ·
      cases hr : inB r 0 20000
      ·
        have hm : (inB k 0 100000 && inB o 0 100000 && inB r 0 20000) = false := by simp [hk, ho, hr]
        obtain ⟨code, hcode⟩ : ∃ code, codeR z n f u step false = code := ⟨_, rfl⟩
        have hne : code ≠ 0 := by rw [← hcode]; exact codeR_false
        have hne2 : (code != 0) = true := by simpa using hne
        have HG := Lib.hid (show fGreatestNet z n f u k o r step = (0, 0, code) by unfold fGreatestNet; rw [hm, hcode, if_neg hne])
        rw [HG.out]
        go_enter Try.func33, Try.ntmps33
        go_wp2
        first
          | go_region_held3 (fun w' => w'.cell? ⟨w.heap.size, 0, none⟩ = some (.slice (A) n c) ∧ w'.cell? ⟨w.heap.size, 1, none⟩ = some (.int .i64 (f)) ∧ w'.cell? ⟨w.heap.size, 2, none⟩ = some (.int .i64 (u)) ∧ w.heap.size < w'.heap.size ∧ RowI w' (A) z ∧ w'.cell? ⟨w.heap.size + 1, 0, none⟩ = some (.int .i64 k) ∧ w.heap.size + 1 < w'.heap.size ∧ w'.cell? ⟨w.heap.size + 1 + 1, 0, none⟩ = some (.int .i64 o) ∧ w.heap.size + 1 + 1 < w'.heap.size ∧ w'.cell? ⟨w.heap.size + 1 + 1 + 1, 0, none⟩ = some (.int .i64 r) ∧ w.heap.size + 1 + 1 + 1 < w'.heap.size) (((try dsimp only at *); (try go_split_ands); (repeat' apply And.intro) <;> first | (with_reducible assumption) | (rw [qc _ _ (by with_reducible assumption)]; with_reducible assumption) | (with_reducible exact qz _ (by with_reducible assumption)) | (with_reducible exact RowI.below (by with_reducible assumption) (by with_reducible assumption)) | (simp [*, go_sem]; done) | omega | (refine RowI.drew ?_; simp [*]; done) | ((repeat (first | (with_reducible assumption) | (with_reducible refine RowI.drew ?_) | (with_reducible refine RowI.drewN ?_ _) | (with_reducible refine RowI.alloc ?_ _) | (with_reducible refine RowI.below ?_ (by with_reducible assumption)))); done) | (refine RowI.below ?_ (by assumption); first | (simp [*]; done) | (refine RowI.drew ?_; simp [*]; done))))
              (first
                | (go_at_call 44; (apply Calls.mono; focus ((with_reducible apply (isKilos_v hk)); (all_goals (first | (with_reducible assumption) | omega | ((repeat (first | (with_reducible assumption) | (with_reducible refine RowI.drewN ?_ _) | (with_reducible refine RowI.drew ?_) | (with_reducible refine RowI.alloc ?_ _) | (with_reducible refine RowI.below ?_ (by with_reducible assumption)))); done) | assumption | (simp; done) | (simp [*]; done))); done)); rintro e w' ⟨rfl, rfl⟩)
                | (go_at_call 44; (apply Calls.mono; focus ((with_reducible apply (isKilos_v ho)); (all_goals (first | (with_reducible assumption) | omega | ((repeat (first | (with_reducible assumption) | (with_reducible refine RowI.drewN ?_ _) | (with_reducible refine RowI.drew ?_) | (with_reducible refine RowI.alloc ?_ _) | (with_reducible refine RowI.below ?_ (by with_reducible assumption)))); done) | assumption | (simp; done) | (simp [*]; done))); done)); rintro e w' ⟨rfl, rfl⟩)
                | (go_at_call 48; (apply Calls.mono; focus ((with_reducible apply (isRopeMass_v hr)); (all_goals (first | (with_reducible assumption) | omega | ((repeat (first | (with_reducible assumption) | (with_reducible refine RowI.drewN ?_ _) | (with_reducible refine RowI.drew ?_) | (with_reducible refine RowI.alloc ?_ _) | (with_reducible refine RowI.below ?_ (by with_reducible assumption)))); done) | assumption | (simp; done) | (simp [*]; done))); done)); rintro e w' ⟨rfl, rfl⟩)
                | (go_at_call 56; (apply Calls.mono; focus ((with_reducible apply (ridden_v hcode hz hn)); (all_goals (first | (with_reducible assumption) | omega | ((repeat (first | (with_reducible assumption) | (with_reducible refine RowI.drewN ?_ _) | (with_reducible refine RowI.drew ?_) | (with_reducible refine RowI.alloc ?_ _) | (with_reducible refine RowI.below ?_ (by with_reducible assumption)))); done) | assumption | (simp; done) | (simp [*]; done))); done)); rintro e w' ⟨rfl, hb⟩; obtain ⟨qc, qf, qz, qs⟩ := bfacts hb; (try simp only [World.size_alloc, World.size_setCell, World.size_drew, World.heap_drewN] at qs)))
          | fail
        go_wp2
        go_returns
        refine ⟨rfl, ?_⟩
        repeat' (first
          | (with_reducible exact Below.refl _ _)
          | (with_reducible assumption)
          | (with_reducible refine Below.alloc ?_ ?_ _)
          | (with_reducible refine Below.drew ?_)
          | (with_reducible refine bdrewN ?_ _)
          | (with_reducible refine Below.setCell ?_ ?_ _)
          | (with_reducible refine bthen (by assumption) ?_ ?_)
          | go_size)
      ·
        have hm : (inB k 0 100000 && inB o 0 100000 && inB r 0 20000) = true := by simp [hk, ho, hr]
        obtain ⟨code, hcode⟩ : ∃ code, codeR z n f u step true = code := ⟨_, rfl⟩
        by_cases hz0 : code = 0
        ·
          subst hz0
          have HG := Lib.hid (show fGreatestNet z n f u k o r step = ((bestI (fun y => absI (netI z n y k o r)) (lenTo z n) step).1, netI z n ((bestI (fun y => absI (netI z n y k o r)) (lenTo z n) step).1) k o r, 0) by unfold fGreatestNet; rw [hm, hcode, if_pos rfl])
          rw [HG.out]
          clear HG hm
          obtain ⟨ht, hst, _⟩ := codeR_zero hcode
          obtain ⟨s0, s1⟩ := inB_true hst
          obtain ⟨⟨n0, n1⟩, hs, ⟨L0, L1⟩, _⟩ := trackB_true ht
          obtain ⟨k0, k1⟩ := inB_true hk
          obtain ⟨o0, o1⟩ := inB_true ho
          obtain ⟨r0, r1⟩ := inB_true hr
          go_enter Try.func33, Try.ntmps33
          go_wp2
          first
            | go_region_held3 (fun w' => w'.cell? ⟨w.heap.size, 0, none⟩ = some (.slice (A) n c) ∧ w'.cell? ⟨w.heap.size, 1, none⟩ = some (.int .i64 (f)) ∧ w'.cell? ⟨w.heap.size, 2, none⟩ = some (.int .i64 (u)) ∧ w.heap.size < w'.heap.size ∧ RowI w' (A) z ∧ w'.cell? ⟨w.heap.size + 1, 0, none⟩ = some (.int .i64 k) ∧ w.heap.size + 1 < w'.heap.size ∧ w'.cell? ⟨w.heap.size + 1 + 1, 0, none⟩ = some (.int .i64 o) ∧ w.heap.size + 1 + 1 < w'.heap.size ∧ w'.cell? ⟨w.heap.size + 1 + 1 + 1, 0, none⟩ = some (.int .i64 r) ∧ w.heap.size + 1 + 1 + 1 < w'.heap.size) (((try dsimp only at *); (try go_split_ands); (repeat' apply And.intro) <;> first | (with_reducible assumption) | (rw [qc _ _ (by with_reducible assumption)]; with_reducible assumption) | (with_reducible exact qz _ (by with_reducible assumption)) | (with_reducible exact RowI.below (by with_reducible assumption) (by with_reducible assumption)) | (simp [*, go_sem]; done) | omega | (refine RowI.drew ?_; simp [*]; done) | ((repeat (first | (with_reducible assumption) | (with_reducible refine RowI.drew ?_) | (with_reducible refine RowI.drewN ?_ _) | (with_reducible refine RowI.alloc ?_ _) | (with_reducible refine RowI.below ?_ (by with_reducible assumption)))); done) | (refine RowI.below ?_ (by assumption); first | (simp [*]; done) | (refine RowI.drew ?_; simp [*]; done))))
                (first
                  | (go_at_call 44; (apply Calls.mono; focus ((with_reducible apply (isKilos_v hk)); (all_goals (first | (with_reducible assumption) | omega | ((repeat (first | (with_reducible assumption) | (with_reducible refine RowI.drewN ?_ _) | (with_reducible refine RowI.drew ?_) | (with_reducible refine RowI.alloc ?_ _) | (with_reducible refine RowI.below ?_ (by with_reducible assumption)))); done) | assumption | (simp; done) | (simp [*]; done))); done)); rintro e w' ⟨rfl, rfl⟩)
                  | (go_at_call 44; (apply Calls.mono; focus ((with_reducible apply (isKilos_v ho)); (all_goals (first | (with_reducible assumption) | omega | ((repeat (first | (with_reducible assumption) | (with_reducible refine RowI.drewN ?_ _) | (with_reducible refine RowI.drew ?_) | (with_reducible refine RowI.alloc ?_ _) | (with_reducible refine RowI.below ?_ (by with_reducible assumption)))); done) | assumption | (simp; done) | (simp [*]; done))); done)); rintro e w' ⟨rfl, rfl⟩)
                  | (go_at_call 48; (apply Calls.mono; focus ((with_reducible apply (isRopeMass_v hr)); (all_goals (first | (with_reducible assumption) | omega | ((repeat (first | (with_reducible assumption) | (with_reducible refine RowI.drewN ?_ _) | (with_reducible refine RowI.drew ?_) | (with_reducible refine RowI.alloc ?_ _) | (with_reducible refine RowI.below ?_ (by with_reducible assumption)))); done) | assumption | (simp; done) | (simp [*]; done))); done)); rintro e w' ⟨rfl, rfl⟩)
                  | (go_at_call 56; (apply Calls.mono; focus ((with_reducible apply (ridden_v hcode hz hn)); (all_goals (first | (with_reducible assumption) | omega | ((repeat (first | (with_reducible assumption) | (with_reducible refine RowI.drewN ?_ _) | (with_reducible refine RowI.drew ?_) | (with_reducible refine RowI.alloc ?_ _) | (with_reducible refine RowI.below ?_ (by with_reducible assumption)))); done) | assumption | (simp; done) | (simp [*]; done))); done)); rintro e w' ⟨rfl, hb⟩; obtain ⟨qc, qf, qz, qs⟩ := bfacts hb; (try simp only [World.size_alloc, World.size_setCell, World.size_drew, World.heap_drewN] at qs)))
            | fail
          (try go_split_ands)
          have t0 : w'.cell? ⟨w.heap.size, 0, none⟩ = some (.slice A n c) := by first | assumption | simp [*]
          have t1 : w'.cell? ⟨w.heap.size, 1, none⟩ = some (.int .i64 f) := by first | assumption | simp [*]
          have t2 : w'.cell? ⟨w.heap.size, 2, none⟩ = some (.int .i64 u) := by first | assumption | simp [*]
          have t3 : w.heap.size < w'.heap.size := by first | assumption | omega
          have hBw : Below w.heap.size w w' := by
            repeat' (first
              | (with_reducible exact Below.refl _ _)
              | (with_reducible assumption)
              | (with_reducible refine Below.alloc ?_ ?_ _)
              | (with_reducible refine Below.drew ?_)
              | (with_reducible refine bdrewN ?_ _)
              | (with_reducible refine Below.setCell ?_ ?_ _)
              | (with_reducible refine bthen (by assumption) ?_ ?_)
              | go_size)
          have hrw : RowI w' A z := by first | assumption | exact hrow.below hBw
          have HTB := Lib.hid (show TrackBox w.heap.size A n c f u w' from ⟨t0, t1, t2, t3⟩)
          have HLE := Lib.hid (fun w' hr => length_c A n c z f u hz n1 hs w' hr)
          have HR := Lib.hid hrow
          have c1 : w'.cell? ⟨w.heap.size + 1, 0, none⟩ = some (.int .i64 k) := by first | assumption | simp [*]
          have c2 : w'.cell? ⟨w.heap.size + 1 + 1, 0, none⟩ = some (.int .i64 o) := by first | assumption | simp [*]
          have c3 : w'.cell? ⟨w.heap.size + 1 + 1 + 1, 0, none⟩ = some (.int .i64 r) := by first | assumption | simp [*]
          have l1 : w.heap.size + 1 < w'.heap.size := by first | assumption | omega
          have l2 : w.heap.size + 1 + 1 < w'.heap.size := by first | assumption | omega
          have l3 : w.heap.size + 1 + 1 + 1 < w'.heap.size := by first | assumption | omega
          have HG := Lib.hid (fun w' hr ht l1 l2 l3 c1 c2 c3 => greatestOnN_c A n c z f u step k o r (w.heap.size) (w.heap.size + 1) (w.heap.size + 1 + 1) (w.heap.size + 1 + 1 + 1) hz n0 n1 hs L1 L0 s0 s1 k0 k1 o0 o1 r0 r1 w' hr ht l1 l2 l3 c1 c2 c3)
          go_wp2_with (go_at_call 57; (refine (HG.out _ hrw HTB.out l1 l2 l3 c1 c2 c3).mono ?_); rintro e w1 ⟨rfl, hb1⟩; have hr1 := hrw.below hb1; have HT1 := HTB.out.below hb1; have g0 := HT1.c0; have g1 := HT1.c1; have g2 := HT1.c2; have g3 := HT1.lt; have h1 := (hb1.cell (p := ⟨w.heap.size + 1, 0, none⟩) l1).trans c1; have h2 := (hb1.cell (p := ⟨w.heap.size + 1 + 1, 0, none⟩) l2).trans c2; have h3 := (hb1.cell (p := ⟨w.heap.size + 1 + 1 + 1, 0, none⟩) l3).trans c3)
          obtain ⟨pl0, pl1⟩ := bestI_place (val := (fun y => absI (netI z n y k o r))) (step := step) s0 (show 0 ≤ lenTo z n by omega)
          go_wp2_with (go_at_call 53; (refine (netPull_c A n c z f u _ k o r hz n0 n1 hs pl0 pl1 L1 k0 k1 o0 o1 r0 r1 _ hr1).mono ?_); rintro e w2 ⟨rfl, hb2⟩)
          go_returns
          refine ⟨rfl, ?_⟩
          repeat' (first
            | (with_reducible exact Below.refl _ _)
            | (with_reducible assumption)
            | (with_reducible refine Below.alloc ?_ ?_ _)
            | (with_reducible refine Below.drew ?_)
            | (with_reducible refine bdrewN ?_ _)
            | (with_reducible refine Below.setCell ?_ ?_ _)
            | (with_reducible refine bthen (by assumption) ?_ ?_)
            | go_size)
        ·
          have hne2 : (code != 0) = true := by simpa using hz0
          have HG := Lib.hid (show fGreatestNet z n f u k o r step = (0, 0, code) by unfold fGreatestNet; rw [hm, hcode, if_neg hz0])
          rw [HG.out]
          go_enter Try.func33, Try.ntmps33
          go_wp2
          first
            | go_region_held3 (fun w' => w'.cell? ⟨w.heap.size, 0, none⟩ = some (.slice (A) n c) ∧ w'.cell? ⟨w.heap.size, 1, none⟩ = some (.int .i64 (f)) ∧ w'.cell? ⟨w.heap.size, 2, none⟩ = some (.int .i64 (u)) ∧ w.heap.size < w'.heap.size ∧ RowI w' (A) z ∧ w'.cell? ⟨w.heap.size + 1, 0, none⟩ = some (.int .i64 k) ∧ w.heap.size + 1 < w'.heap.size ∧ w'.cell? ⟨w.heap.size + 1 + 1, 0, none⟩ = some (.int .i64 o) ∧ w.heap.size + 1 + 1 < w'.heap.size ∧ w'.cell? ⟨w.heap.size + 1 + 1 + 1, 0, none⟩ = some (.int .i64 r) ∧ w.heap.size + 1 + 1 + 1 < w'.heap.size) (((try dsimp only at *); (try go_split_ands); (repeat' apply And.intro) <;> first | (with_reducible assumption) | (rw [qc _ _ (by with_reducible assumption)]; with_reducible assumption) | (with_reducible exact qz _ (by with_reducible assumption)) | (with_reducible exact RowI.below (by with_reducible assumption) (by with_reducible assumption)) | (simp [*, go_sem]; done) | omega | (refine RowI.drew ?_; simp [*]; done) | ((repeat (first | (with_reducible assumption) | (with_reducible refine RowI.drew ?_) | (with_reducible refine RowI.drewN ?_ _) | (with_reducible refine RowI.alloc ?_ _) | (with_reducible refine RowI.below ?_ (by with_reducible assumption)))); done) | (refine RowI.below ?_ (by assumption); first | (simp [*]; done) | (refine RowI.drew ?_; simp [*]; done))))
                (first
                  | (go_at_call 44; (apply Calls.mono; focus ((with_reducible apply (isKilos_v hk)); (all_goals (first | (with_reducible assumption) | omega | ((repeat (first | (with_reducible assumption) | (with_reducible refine RowI.drewN ?_ _) | (with_reducible refine RowI.drew ?_) | (with_reducible refine RowI.alloc ?_ _) | (with_reducible refine RowI.below ?_ (by with_reducible assumption)))); done) | assumption | (simp; done) | (simp [*]; done))); done)); rintro e w' ⟨rfl, rfl⟩)
                  | (go_at_call 44; (apply Calls.mono; focus ((with_reducible apply (isKilos_v ho)); (all_goals (first | (with_reducible assumption) | omega | ((repeat (first | (with_reducible assumption) | (with_reducible refine RowI.drewN ?_ _) | (with_reducible refine RowI.drew ?_) | (with_reducible refine RowI.alloc ?_ _) | (with_reducible refine RowI.below ?_ (by with_reducible assumption)))); done) | assumption | (simp; done) | (simp [*]; done))); done)); rintro e w' ⟨rfl, rfl⟩)
                  | (go_at_call 48; (apply Calls.mono; focus ((with_reducible apply (isRopeMass_v hr)); (all_goals (first | (with_reducible assumption) | omega | ((repeat (first | (with_reducible assumption) | (with_reducible refine RowI.drewN ?_ _) | (with_reducible refine RowI.drew ?_) | (with_reducible refine RowI.alloc ?_ _) | (with_reducible refine RowI.below ?_ (by with_reducible assumption)))); done) | assumption | (simp; done) | (simp [*]; done))); done)); rintro e w' ⟨rfl, rfl⟩)
                  | (go_at_call 56; (apply Calls.mono; focus ((with_reducible apply (ridden_v hcode hz hn)); (all_goals (first | (with_reducible assumption) | omega | ((repeat (first | (with_reducible assumption) | (with_reducible refine RowI.drewN ?_ _) | (with_reducible refine RowI.drew ?_) | (with_reducible refine RowI.alloc ?_ _) | (with_reducible refine RowI.below ?_ (by with_reducible assumption)))); done) | assumption | (simp; done) | (simp [*]; done))); done)); rintro e w' ⟨rfl, hb⟩; obtain ⟨qc, qf, qz, qs⟩ := bfacts hb; (try simp only [World.size_alloc, World.size_setCell, World.size_drew, World.heap_drewN] at qs)))
            | fail
          go_wp2
          go_returns
          refine ⟨rfl, ?_⟩
          repeat' (first
            | (with_reducible exact Below.refl _ _)
            | (with_reducible assumption)
            | (with_reducible refine Below.alloc ?_ ?_ _)
            | (with_reducible refine Below.drew ?_)
            | (with_reducible refine bdrewN ?_ _)
            | (with_reducible refine Below.setCell ?_ ?_ _)
            | (with_reducible refine bthen (by assumption) ?_ ?_)
            | go_size)
set_option maxHeartbeats 2000000 in
theorem specGreatestNet_c (A : Option Addr) (n c : Nat) (z : List Int) (f u k o r step : Int) (hz : z.length = n * 2) (hn : n ≤ 1048576) (w : World) (hrow : RowI w A z) : Calls Try.prog 32 #[.agg #[.slice A n c, .int .i64 f, .int .i64 u], .int .i64 k, .int .i64 o, .int .i64 r, .int .i64 step] w fun e w' => e = .returned (.tuple #[.int .i64 (fGreatestNet z n f u k o r step).1, .int .i64 (fGreatestNet z n f u k o r step).2.1, .int .i64 (fGreatestNet z n f u k o r step).2.2]) ∧ Below w.heap.size w w' := by
  obtain ⟨m, hm⟩ : ∃ m, (inB k 0 100000 && inB o 0 100000 && inB r 0 20000) = m := ⟨_, rfl⟩
  have hask : (inB k 0 100000 && inB o 0 100000 && inB r 0 20000) = m := hm
  obtain ⟨code, hcode⟩ : ∃ code, codeR z n f u step m = code := ⟨_, rfl⟩
  by_cases hz0 : code = 0
  ·
    subst hz0
    have HG := Lib.hid (show fGreatestNet z n f u k o r step = ((bestI (fun y => absI (netI z n y k o r)) (lenTo z n) step).1, netI z n ((bestI (fun y => absI (netI z n y k o r)) (lenTo z n) step).1) k o r, 0) by unfold fGreatestNet; rw [hm, hcode, if_pos rfl])
    rw [HG.out]
    clear HG
    obtain ⟨ht, hst, rfl⟩ := codeR_zero hcode
    obtain ⟨s0, s1⟩ := inB_true hst
    simp only [Bool.and_eq_true] at hm
    obtain ⟨⟨hk, ho⟩, hr⟩ := hm
    obtain ⟨⟨n0, n1⟩, hs, ⟨L0, L1⟩, _⟩ := trackB_true ht
    obtain ⟨k0, k1⟩ := inB_true hk
    obtain ⟨o0, o1⟩ := inB_true ho
    obtain ⟨r0, r1⟩ := inB_true hr
    go_enter Try.func32, Try.ntmps32
    go_wp2_with
      (first
        | (go_at_call 54; (apply Calls.mono; focus ((with_reducible apply (l07Run_v (A := A) (c := c) hask hcode _ hz hn)); (all_goals (first | (with_reducible assumption) | omega | ((repeat (first | (with_reducible assumption) | (with_reducible refine RowI.drewN ?_ _) | (with_reducible refine RowI.drew ?_) | (with_reducible refine RowI.alloc ?_ _) | (with_reducible refine RowI.below ?_ (by with_reducible assumption)))); done) | assumption | (simp; done) | (simp [*]; done))); done)); rintro e w' ⟨rfl, nq, rfl⟩))
    have hr1 := hrow.alloc (.cells #[.slice A n c, .int .i64 f, .int .i64 u] 30)
    have tb := TrackBox.new w 30 A n c f u
    have hBw : Below w.heap.size w (w.alloc (.cells #[.slice A n c, .int .i64 f, .int .i64 u] 30)) := (Below.refl _ _).alloc (Nat.le_refl _) _
    generalize w.alloc (.cells #[.slice A n c, .int .i64 f, .int .i64 u] 30) = W at *
    have t0 := tb.c0
    have t1 := tb.c1
    have t2 := tb.c2
    have HNE := Lib.hid (fun y y0 y1 w' hr h0 => l07Net_c A n c z y k o r w.heap.size hz n0 n1 hs y0 y1 L1 k0 k1 o0 o1 r0 r1 w' hr h0)
    have HNB := Lib.hid (fun y y0 y1 => netI_bd hs n0 (x := y) k0 k1 o0 o1 r0 r1 y0 y1 L1)
    have HLE := Lib.hid (fun w' hr h0 => l03Length_c A n c z w.heap.size hz n1 hs w' hr h0)
    clear hrow hcode ht hst hask hk ho
    have HI := Lib.hid (bestI_spec (val := (fun y => absI (netI z n y k o r))) (len := lenTo z n) (step := step) (absI_nonneg _) (by omega))
    go_loopw [14, 15, 16, 17] (fun b m fo x wr => ∃ (q : Nat) (y p v g : Int), 0 ≤ y ∧ y ≤ 6000000 ∧ lenTo z n + 1 - y ≤ q ∧ Hid (bestF (fun y => absI (netI z n y k o r)) (lenTo z n) step q y (p, v) = bestI (fun y => absI (netI z n y k o r)) (lenTo z n) step) ∧ (v < 0 → y = 0) ∧ Hid (0 ≤ v → g = netI z n p k o r) ∧ b = .int .i64 p ∧ m = .int .i64 v ∧ fo = .int .i64 g ∧ x = .int .i64 y ∧ ∃ j, wr = W.drewN j) (fun _ _ _ x _ => (lenTo z n + 1 - intOf x).toNat)
    case atStart => exact ⟨(lenTo z n).toNat + 1, 0, 0, -1, 0, by omega, by omega, by omega, HI, fun _ => rfl, Lib.hid (fun h => by omega), rfl, rfl, rfl, rfl, (by first | exact ⟨_, rfl⟩ | exact ⟨_, World.drewN_drewN _ _ _⟩ | exact ⟨0, rfl⟩)⟩
    case round =>
      obtain ⟨q, y, p, v, g, y0, y1, hq, HK, hv0, HG, rfl, rfl, rfl, rfl, j, rfl⟩ := hrel
      have HV0 := Lib.hid hv0
      clear hv0
      by_cases hlt : y ≤ lenTo z n
      · obtain ⟨q, rfl⟩ : ∃ q', q = q' + 1 := ⟨q - 1, by omega⟩
        obtain ⟨u0, u1⟩ := HNB.out y y0 hlt
        have hmx := max_neg (netI z n y k o r)
        have hab := absI_nonneg (netI z n y k o r)
        by_cases hg : v < absI (netI z n y k o r)
        · have HN := Lib.hid (bestF_hit (val := (fun y => absI (netI z n y k o r))) (len := lenTo z n) (step := step) (q := q) (x := y) (s := (p, v)) hlt hg)
          go_wp2_with
            (first
              | (go_at_call 55; (refine (HLE.out _ (hr1.drewN _) t0).mono ?_); rintro e w' ⟨rfl, rfl⟩)
              | (go_at_call 52; (refine (HNE.out y y0 hlt _ (hr1.drewN _) t0).mono ?_); rintro e w' ⟨rfl, nq, rfl⟩)
              | (go_at_call 60; go_call (l00Max_c _ _ _); rintro e w' ⟨rfl, rfl⟩))
          go_roundw
          case rel => exact ⟨q, y + step, y, absI (netI z n y k o r), netI z n y k o r, by omega, by omega, by omega, Lib.hid (HN.out.symm.trans HK.out), fun h => by omega, Lib.hid (fun _ => rfl), rfl, by first | rfl | rw [max_neg], rfl, rfl, (by first | exact ⟨_, rfl⟩ | exact ⟨_, World.drewN_drewN _ _ _⟩ | exact ⟨0, rfl⟩)⟩
          case measure => simp [intOf]; omega
        · have HN := Lib.hid (bestF_on (val := (fun y => absI (netI z n y k o r))) (len := lenTo z n) (step := step) (q := q) (x := y) (s := (p, v)) hlt hg)
          go_wp2_with
            (first
              | (go_at_call 55; (refine (HLE.out _ (hr1.drewN _) t0).mono ?_); rintro e w' ⟨rfl, rfl⟩)
              | (go_at_call 52; (refine (HNE.out y y0 hlt _ (hr1.drewN _) t0).mono ?_); rintro e w' ⟨rfl, nq, rfl⟩)
              | (go_at_call 60; go_call (l00Max_c _ _ _); rintro e w' ⟨rfl, rfl⟩))
          go_roundw
          case rel => exact ⟨q, y + step, p, v, g, by omega, by omega, by omega, Lib.hid (HN.out.symm.trans HK.out), fun h => by omega, HG, rfl, rfl, rfl, rfl, (by first | exact ⟨_, rfl⟩ | exact ⟨_, World.drewN_drewN _ _ _⟩ | exact ⟨0, rfl⟩)⟩
          case measure => simp [intOf]; omega
      · have HE := Lib.hid (bestF_end (val := (fun y => absI (netI z n y k o r))) (step := step) (q := q) (s := (p, v)) hlt)
        have HP := Lib.hid (show (bestI (fun y => absI (netI z n y k o r)) (lenTo z n) step).1 = p from by rw [← HK.out, HE.out])
        have HF := Lib.hid (HG.out (by
          rcases Int.lt_or_le v 0 with h | h
          · have := HV0.out h
            omega
          · exact h))
        go_wp2_with
          (first
            | (go_at_call 55; (refine (HLE.out _ (hr1.drewN _) t0).mono ?_); rintro e w' ⟨rfl, rfl⟩))
        go_returns
        exact ⟨by rw [HP.out, ← HF.out]; rfl, bdrewN hBw _⟩
  ·
    have hne2 : (code != 0) = true := by simpa using hz0
    have HG := Lib.hid (show fGreatestNet z n f u k o r step = (0, 0, code) by unfold fGreatestNet; rw [hm, hcode, if_neg hz0])
    rw [HG.out]
    go_enter Try.func32, Try.ntmps32
    go_wp2_with
      (first
        | (go_at_call 54; (apply Calls.mono; focus ((with_reducible apply (l07Run_v (A := A) (c := c) hask hcode _ hz hn)); (all_goals (first | (with_reducible assumption) | omega | ((repeat (first | (with_reducible assumption) | (with_reducible refine RowI.drewN ?_ _) | (with_reducible refine RowI.drew ?_) | (with_reducible refine RowI.alloc ?_ _) | (with_reducible refine RowI.below ?_ (by with_reducible assumption)))); done) | assumption | (simp; done) | (simp [*]; done))); done)); rintro e w' ⟨rfl, nq, rfl⟩))
    go_returns
    refine ⟨rfl, ?_⟩
    repeat' (first
      | (with_reducible exact Below.refl _ _)
      | (with_reducible assumption)
      | (with_reducible refine Below.alloc ?_ ?_ _)
      | (with_reducible refine Below.drew ?_)
      | (with_reducible refine bdrewN ?_ _)
      | (with_reducible refine Below.setCell ?_ ?_ _)
      | (with_reducible refine bthen (by assumption) ?_ ?_)
      | go_size)
set_option maxHeartbeats 2000000 in
theorem walk_FnExactGreatestNet (A : Option Addr) (n c : Nat) (z : List Int) (f u : Int) (k : Int) (o : Int) (r : Int) (step : Int) (w : World) (h : StructArg 2 w A n z) (_ : I64 f) (_ : I64 u) (_ : I64 k) (_ : I64 o) (_ : I64 r) (_ : I64 step) : Calls Try.prog 11 #[.agg #[.slice A n c, .int .i64 f, .int .i64 u], .int .i64 k, .int .i64 o, .int .i64 r, .int .i64 step] w fun e w' => e = .returned (.bool true) ∧ Below w.heap.size w w' := by
  obtain ⟨hz, hmax, hr, _⟩ := h
  have HSZ := Lib.hid (szTrack_c A n c f u hmax)
  by_cases hn : n ≤ 1048576
  · rw [if_pos hn] at HSZ
    have hn1 : (0 : Int) ≤ 1048576 - n := by omega
    have tb0 := (TrackBox.new w 24 A n c f u)
    have hr0 := hr.alloc (.cells #[.slice A n c, .int .i64 f, .int .i64 u] 24)
    go_enter Try.func11, Try.ntmps11
    go_wp2_with (go_at_call 13; (refine (HSZ.out _).mono ?_); rintro e w1 ⟨rfl, hb1⟩; have tb1 := tb0.below hb1; have a10 := tb1.c0; have a11 := tb1.c1; have a12 := tb1.c2; have hr1 := hr0.below hb1)
    go_wp2_with (go_at_call 15; (refine (toTrack_c A n c z f u hz hn _ hr1).mono ?_); rintro e w2 ⟨B, rfl, hR2, hb2⟩; have tb2 := tb1.below hb2; have a20 := tb2.c0; have a21 := tb2.c1; have a22 := tb2.c2; have hr2 := hr1.below hb2)
    go_wp2_with (go_at_call 32; (refine (specGreatestNet_c B n n z f u _ _ _ _ hz hn _ hR2).mono ?_); rintro e w3 ⟨rfl, hb3⟩; have tb3 := tb2.below hb3; have a30 := tb3.c0; have a31 := tb3.c1; have a32 := tb3.c2; have hr3 := hr2.below hb3)
    go_wp2_with (go_at_call 15; (refine (toTrack_c A n c z f u hz hn _ hr3).mono ?_); rintro e w4 ⟨D, rfl, hR4, hb4⟩; have tb4 := (tb3.below hb4).alloc (.cells #[.slice D n n, .int .i64 f, .int .i64 u] 30); have hr4 := (hr3.below hb4).alloc (.cells #[.slice D n n, .int .i64 f, .int .i64 u] 30); have td4 := TrackBox.new w4 30 D n n f u; have hR4' := hR4.alloc (.cells #[.slice D n n, .int .i64 f, .int .i64 u] 30))
    go_wp2_with (go_at_call 33; (refine (implGreatestNet_c D n n z f u _ _ _ _ hz hn _ hR4').mono ?_); rintro e w5 ⟨rfl, hb5⟩; have tb5 := tb4.below hb5; have td5 := td4.below hb5; have hr5 := hr4.below hb5; have hR5 := hR4'.below hb5)
    have s0 := tb5.c0
    have s1 := tb5.c1
    have s2 := tb5.c2
    have s3 := tb5.lt
    have d0 := td5.c0
    have d1 := td5.c1
    have d2 := td5.c2
    have d3 := td5.lt
    have z1 : w.heap.size ≤ w1.heap.size := by have := hb1.size; simp only [World.size_alloc] at this; omega
    have z2 : w1.heap.size ≤ w2.heap.size := hb2.size
    have z3 : w2.heap.size ≤ w3.heap.size := hb3.size
    have z4 : w3.heap.size ≤ w4.heap.size := hb4.size
    have z5 : w4.heap.size ≤ w5.heap.size := by have := hb5.size; simp only [World.size_alloc] at this; omega
    have hB5 : Below w.heap.size w w5 := by
      repeat' (first
        | (with_reducible exact Below.refl _ _)
        | (with_reducible assumption)
        | (with_reducible refine Below.alloc ?_ ?_ _)
        | (with_reducible refine Below.drew ?_)
        | (with_reducible refine bdrewN ?_ _)
        | (with_reducible refine Below.setCell ?_ ?_ _)
        | (with_reducible refine bthen (by assumption) ?_ ?_)
        | go_size)
    clear tb0 tb1 tb2 tb3 tb4 tb5 td4 td5 hb1 hb2 hb3 hb4 hb5 a10 a11 a12 a20 a21 a22 a30 a31 a32 hr0 hr1 hr2 hr3 hr4 hR2 hR4 hR4'
    go_wp2
    first
      | go_region_held3 (fun w' => w'.cell? ⟨w.heap.size, 0, none⟩ = some (.slice A n c) ∧ w'.cell? ⟨w.heap.size, 1, none⟩ = some (.int .i64 f) ∧ w'.cell? ⟨w.heap.size, 2, none⟩ = some (.int .i64 u) ∧ w'.cell? ⟨w4.heap.size, 0, none⟩ = some (.slice D n n) ∧ w'.cell? ⟨w4.heap.size, 1, none⟩ = some (.int .i64 f) ∧ w'.cell? ⟨w4.heap.size, 2, none⟩ = some (.int .i64 u) ∧ w.heap.size < w'.heap.size ∧ w4.heap.size < w'.heap.size ∧ RowI w' A z ∧ RowI w' D z) (((try dsimp only at *); (try go_split_ands); (repeat' apply And.intro) <;> first | (with_reducible assumption) | (rw [qc _ _ (by with_reducible assumption)]; with_reducible assumption) | (with_reducible exact qz _ (by with_reducible assumption)) | (with_reducible exact RowI.below (by with_reducible assumption) (by with_reducible assumption)) | (simp [*, go_sem]; done) | omega | (refine RowI.drew ?_; simp [*]; done) | ((repeat (first | (with_reducible assumption) | (with_reducible refine RowI.drew ?_) | (with_reducible refine RowI.drewN ?_ _) | (with_reducible refine RowI.alloc ?_ _) | (with_reducible refine RowI.below ?_ (by with_reducible assumption)))); done) | (refine RowI.below ?_ (by assumption); first | (simp [*]; done) | (refine RowI.drew ?_; simp [*]; done))))
        (first
          | (go_at_call 15; (apply Calls.mono; focus ((with_reducible apply (toTrack_c A n c z f u hz hn)); (all_goals (first | (with_reducible assumption) | (simp [*]; done))); done)); rintro e w' ⟨B', rfl, hR', hb⟩; obtain ⟨qc, qf, qz, qs⟩ := bfacts hb; (try simp only [World.size_alloc, World.size_setCell, World.size_drew, World.heap_drewN] at qs))
          | (go_at_call 17; (apply Calls.mono; focus ((with_reducible apply (eqTrack_c _ _ n _ _ z f u hz hn)); (all_goals (first | (with_reducible assumption) | (simp [*]; done))); done)); rintro e w' ⟨rfl, hb⟩; obtain ⟨qc, qf, qz, qs⟩ := bfacts hb; (try simp only [World.size_alloc, World.size_setCell, World.size_drew, World.heap_drewN] at qs)))
      | fail
    go_wp2
    go_returns
    refine ⟨by simp, ?_⟩
    repeat' (first
      | (with_reducible exact Below.refl _ _)
      | (with_reducible assumption)
      | (with_reducible refine Below.alloc ?_ ?_ _)
      | (with_reducible refine Below.drew ?_)
      | (with_reducible refine bdrewN ?_ _)
      | (with_reducible refine Below.setCell ?_ ?_ _)
      | (with_reducible refine bthen (by assumption) ?_ ?_)
      | go_size)
  · rw [if_neg hn] at HSZ
    go_enter Try.func11, Try.ntmps11
    go_wp2_with (go_at_call 13; (refine (HSZ.out _).mono ?_); rintro e w1 ⟨rfl, hb1⟩)
    go_returns
    refine ⟨by simp, ?_⟩
    repeat' (first
      | (with_reducible exact Below.refl _ _)
      | (with_reducible assumption)
      | (with_reducible refine Below.alloc ?_ ?_ _)
      | (with_reducible refine Below.drew ?_)
      | (with_reducible refine bdrewN ?_ _)
      | (with_reducible refine Below.setCell ?_ ?_ _)
      | (with_reducible refine bthen (by assumption) ?_ ?_)
      | go_size)
end Go.Proofs.Ytmkfkpfblnblgaa
