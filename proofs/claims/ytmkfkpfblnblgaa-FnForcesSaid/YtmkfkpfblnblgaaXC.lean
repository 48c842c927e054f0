/- The work of a ride. -/
import Derived.Test.YtmkfkpfblnblgaaXB
namespace Go.Proofs.Ytmkfkpfblnblgaa
open Go.ChangeShapes Go.WideShapes Go.ChangeAt Go.RowKit
set_option linter.unusedVariables false
set_option linter.unusedSimpArgs false

def fWorkOf (z : List Int) (n : Nat) (f u k o r step : Int) : Int × Int := if codeR z n f u step (inB k 0 100000 && inB o 0 100000 && inB r 0 20000) = 0 then (workI z n k o r step, 0) else (0, codeR z n f u step (inB k 0 100000 && inB o 0 100000 && inB r 0 20000))
set_option maxHeartbeats 4000000 in
theorem implWorkOf_c (A : Option Addr) (n c : Nat) (z : List Int) (f u k o r step : Int) (hz : z.length = n * 2) (hn : n ≤ 1048576) (w : World) (hrow : RowI w A z) : Calls Try.prog 29 #[.agg #[.slice A n c, .int .i64 f, .int .i64 u], .int .i64 k, .int .i64 o, .int .i64 r, .int .i64 step] w fun e w' => e = .returned (.tuple #[.int .i64 (fWorkOf z n f u k o r step).1, .int .i64 (fWorkOf z n f u k o r step).2]) ∧ Below w.heap.size w w' := by
  cases hk : inB k 0 100000
  ·
    have hm : (inB k 0 100000 && inB o 0 100000 && inB r 0 20000) = false := by simp [hk]
    obtain ⟨code, hcode⟩ : ∃ code, codeR z n f u step false = code := ⟨_, rfl⟩
    have hne : code ≠ 0 := by rw [← hcode]; exact codeR_false
    have hne2 : (code != 0) = true := by simpa using hne
    have HG := Lib.hid (show fWorkOf z n f u k o r step = (0, code) by unfold fWorkOf; rw [hm, hcode, if_neg hne])
    rw [HG.out]
    go_enter Try.func29, Try.ntmps29
    go_wp2
    refine wp_region_held_drew (S := fun w' => w'.cell? ⟨w.heap.size, 0, none⟩ = some (.slice (A) n c) ∧ w'.cell? ⟨w.heap.size, 1, none⟩ = some (.int .i64 (f)) ∧ w'.cell? ⟨w.heap.size, 2, none⟩ = some (.int .i64 (u)) ∧ w.heap.size < w'.heap.size ∧ RowI w' (A) z) (by kernel_rfl) ?_ (fun hHeld => ?_)
    · (((try dsimp only at *); (try go_split_ands); (repeat' apply And.intro) <;> first | (with_reducible assumption) | (rw [qc _ _ (by with_reducible assumption)]; with_reducible assumption) | (with_reducible exact qz _ (by with_reducible assumption)) | (with_reducible exact RowI.below (by with_reducible assumption) (by with_reducible assumption)) | (simp [*, go_sem]; done) | omega | (refine RowI.drew ?_; simp [*]; done) | ((repeat (first | (with_reducible assumption) | (with_reducible refine RowI.drew ?_) | (with_reducible refine RowI.drewN ?_ _) | (with_reducible refine RowI.alloc ?_ _) | (with_reducible refine RowI.below ?_ (by with_reducible assumption)))); done) | (refine RowI.below ?_ (by assumption); first | (simp [*]; done) | (refine RowI.drew ?_; simp [*]; done))))
    refine wpAnyH_take (i := 0) (v := ?_) rfl (by kernel_rfl) (by kernel_rfl) (by kernel_rfl) (fun _ _ _ h => h) (Or.inl ⟨by rfl, ?_⟩) (by assumption) ?_
    rotate_left
    · (intro w hSw; (try dsimp only at hSw); go_simp; (try with_reducible rfl))
    (try simp only [Act.put, List.getElem_toArray, List.getElem_cons_zero, List.getElem_cons_succ, List.setIfInBounds_toArray, List.set_cons_zero, List.set_cons_succ])
    refine wpAnyH_take (i := 1) (v := ?_) rfl (by kernel_rfl) (by kernel_rfl) (by kernel_rfl) (fun _ _ _ h => h) (Or.inl ⟨by rfl, ?_⟩) (by assumption) ?_
    rotate_left
    · (intro w hSw; (try dsimp only at hSw); go_simp; (try with_reducible rfl))
    (try simp only [Act.put, List.getElem_toArray, List.getElem_cons_zero, List.getElem_cons_succ, List.setIfInBounds_toArray, List.set_cons_zero, List.set_cons_succ])
    refine wpAnyH_take (i := 2) (v := ?_) rfl (by kernel_rfl) (by kernel_rfl) (by kernel_rfl) (fun _ _ _ h => h) (Or.inl ⟨by rfl, ?_⟩) (by assumption) ?_
    rotate_left
    · (intro w hSw; (try dsimp only at hSw); go_simp; (try with_reducible rfl))
    (try simp only [Act.put, List.getElem_toArray, List.getElem_cons_zero, List.getElem_cons_succ, List.setIfInBounds_toArray, List.set_cons_zero, List.set_cons_succ])
    refine wpAnyH_ready (rs := [3]) (by kernel_rfl) (by simp) ?_
    refine AllReadyH.cons rfl (fun K hK => ?_) AllReadyH.nil
    go_simp
    (first
      | (go_at_call 44; (apply Calls.mono; focus ((with_reducible apply (isKilos_v hk)); (all_goals (first | (with_reducible assumption) | omega | ((repeat (first | (with_reducible assumption) | (with_reducible refine RowI.drewN ?_ _) | (with_reducible refine RowI.drew ?_) | (with_reducible refine RowI.alloc ?_ _) | (with_reducible refine RowI.below ?_ (by with_reducible assumption)))); done) | assumption | (simp; done) | (simp [*]; done))); done)); rintro e w' ⟨rfl, rfl⟩)
      | (go_at_call 56; (apply Calls.mono; focus ((with_reducible apply (ridden_v hcode hz hn)); (all_goals (first | (with_reducible assumption) | omega | ((repeat (first | (with_reducible assumption) | (with_reducible refine RowI.drewN ?_ _) | (with_reducible refine RowI.drew ?_) | (with_reducible refine RowI.alloc ?_ _) | (with_reducible refine RowI.below ?_ (by with_reducible assumption)))); done) | assumption | (simp; done) | (simp [*]; done))); done)); rintro e w' ⟨rfl, hb⟩; obtain ⟨qc, qf, qz, qs⟩ := bfacts hb; (try simp only [World.size_alloc, World.size_setCell, World.size_drew, World.heap_drewN] at qs)))
    (try go_wp2_with fail)
    refine hK.out _ _ ?_ (fun hHeld => ?_)
    · (((try dsimp only at *); (try go_split_ands); (repeat' apply And.intro) <;> first | (with_reducible assumption) | (rw [qc _ _ (by with_reducible assumption)]; with_reducible assumption) | (with_reducible exact qz _ (by with_reducible assumption)) | (with_reducible exact RowI.below (by with_reducible assumption) (by with_reducible assumption)) | (simp [*, go_sem]; done) | omega | (refine RowI.drew ?_; simp [*]; done) | ((repeat (first | (with_reducible assumption) | (with_reducible refine RowI.drew ?_) | (with_reducible refine RowI.drewN ?_ _) | (with_reducible refine RowI.alloc ?_ _) | (with_reducible refine RowI.below ?_ (by with_reducible assumption)))); done) | (refine RowI.below ?_ (by assumption); first | (simp [*]; done) | (refine RowI.drew ?_; simp [*]; done))))
    clear hK K
    (try simp only [Act.put, List.getElem_toArray, List.getElem_cons_zero, List.getElem_cons_succ, List.setIfInBounds_toArray, List.set_cons_zero, List.set_cons_succ])
    refine wpAnyH_take (i := 4) (v := ?_) rfl (by kernel_rfl) (by kernel_rfl) (by kernel_rfl) (fun _ _ _ h => h) (Or.inl ⟨by rfl, ?_⟩) (by assumption) ?_
    rotate_left
    · (intro w hSw; (try dsimp only at hSw); go_simp; (try with_reducible rfl))
    (try simp only [Act.put, List.getElem_toArray, List.getElem_cons_zero, List.getElem_cons_succ, List.setIfInBounds_toArray, List.set_cons_zero, List.set_cons_succ])
    refine wpAnyH_take (i := 5) (v := undef) rfl (by kernel_rfl) (by kernel_rfl) (by kernel_rfl) (fun _ _ _ h => h) (Or.inr ⟨by first | kernel_rfl | rfl, rfl⟩) (by assumption) ?_
    (try simp only [Act.put, List.getElem_toArray, List.getElem_cons_zero, List.getElem_cons_succ, List.setIfInBounds_toArray, List.set_cons_zero, List.set_cons_succ])
    refine wpAnyH_take (i := 6) (v := undef) rfl (by kernel_rfl) (by kernel_rfl) (by kernel_rfl) (fun _ _ _ h => h) (Or.inr ⟨by first | kernel_rfl | rfl, rfl⟩) (by assumption) ?_
    (try simp only [Act.put, List.getElem_toArray, List.getElem_cons_zero, List.getElem_cons_succ, List.setIfInBounds_toArray, List.set_cons_zero, List.set_cons_succ])
    refine wpAnyH_take (i := 7) (v := ?_) rfl (by kernel_rfl) (by kernel_rfl) (by kernel_rfl) (fun _ _ _ h => h) (Or.inl ⟨by rfl, ?_⟩) (by assumption) ?_
    rotate_left
    · (intro w hSw; (try dsimp only at hSw); go_simp; (try with_reducible rfl))
    (try simp only [Act.put, List.getElem_toArray, List.getElem_cons_zero, List.getElem_cons_succ, List.setIfInBounds_toArray, List.set_cons_zero, List.set_cons_succ])
    refine wpAnyH_take (i := 8) (v := ?_) rfl (by kernel_rfl) (by kernel_rfl) (by kernel_rfl) (fun _ _ _ h => h) (Or.inl ⟨by rfl, ?_⟩) (by assumption) ?_
    rotate_left
    · (intro w hSw; (try dsimp only at hSw); go_simp; (try with_reducible rfl))
    (try simp only [Act.put, List.getElem_toArray, List.getElem_cons_zero, List.getElem_cons_succ, List.setIfInBounds_toArray, List.set_cons_zero, List.set_cons_succ])
    refine wpAnyH_take (i := 9) (v := undef) rfl (by kernel_rfl) (by kernel_rfl) (by kernel_rfl) (fun _ _ _ h => h) (Or.inr ⟨by first | kernel_rfl | rfl, rfl⟩) (by assumption) ?_
    (try simp only [Act.put, List.getElem_toArray, List.getElem_cons_zero, List.getElem_cons_succ, List.setIfInBounds_toArray, List.set_cons_zero, List.set_cons_succ])
    refine wpAnyH_take (i := 10) (v := undef) rfl (by kernel_rfl) (by kernel_rfl) (by kernel_rfl) (fun _ _ _ h => h) (Or.inr ⟨by first | kernel_rfl | rfl, rfl⟩) (by assumption) ?_
    (try simp only [Act.put, List.getElem_toArray, List.getElem_cons_zero, List.getElem_cons_succ, List.setIfInBounds_toArray, List.set_cons_zero, List.set_cons_succ])
    refine wpAnyH_take (i := 11) (v := ?_) rfl (by kernel_rfl) (by kernel_rfl) (by kernel_rfl) (fun _ _ _ h => h) (Or.inl ⟨by rfl, ?_⟩) (by assumption) ?_
    rotate_left
    · (intro w hSw; (try dsimp only at hSw); go_simp; (try with_reducible rfl))
    (try simp only [Act.put, List.getElem_toArray, List.getElem_cons_zero, List.getElem_cons_succ, List.setIfInBounds_toArray, List.set_cons_zero, List.set_cons_succ])
    refine wpAnyH_ready (rs := [12]) (by kernel_rfl) (by simp) ?_
    refine AllReadyH.cons rfl (fun K hK => ?_) AllReadyH.nil
    go_simp
    (first
      | (go_at_call 44; (apply Calls.mono; focus ((with_reducible apply (isKilos_v hk)); (all_goals (first | (with_reducible assumption) | omega | ((repeat (first | (with_reducible assumption) | (with_reducible refine RowI.drewN ?_ _) | (with_reducible refine RowI.drew ?_) | (with_reducible refine RowI.alloc ?_ _) | (with_reducible refine RowI.below ?_ (by with_reducible assumption)))); done) | assumption | (simp; done) | (simp [*]; done))); done)); rintro e w' ⟨rfl, rfl⟩)
      | (go_at_call 56; (apply Calls.mono; focus ((with_reducible apply (ridden_v hcode hz hn)); (all_goals (first | (with_reducible assumption) | omega | ((repeat (first | (with_reducible assumption) | (with_reducible refine RowI.drewN ?_ _) | (with_reducible refine RowI.drew ?_) | (with_reducible refine RowI.alloc ?_ _) | (with_reducible refine RowI.below ?_ (by with_reducible assumption)))); done) | assumption | (simp; done) | (simp [*]; done))); done)); rintro e w' ⟨rfl, hb⟩; obtain ⟨qc, qf, qz, qs⟩ := bfacts hb; (try simp only [World.size_alloc, World.size_setCell, World.size_drew, World.heap_drewN] at qs)))
    (try go_wp2_with fail)
    refine hK.out _ _ ?_ (fun hHeld => ?_)
    · (((try dsimp only at *); (try go_split_ands); (repeat' apply And.intro) <;> first | (with_reducible assumption) | (rw [qc _ _ (by with_reducible assumption)]; with_reducible assumption) | (with_reducible exact qz _ (by with_reducible assumption)) | (with_reducible exact RowI.below (by with_reducible assumption) (by with_reducible assumption)) | (simp [*, go_sem]; done) | omega | (refine RowI.drew ?_; simp [*]; done) | ((repeat (first | (with_reducible assumption) | (with_reducible refine RowI.drew ?_) | (with_reducible refine RowI.drewN ?_ _) | (with_reducible refine RowI.alloc ?_ _) | (with_reducible refine RowI.below ?_ (by with_reducible assumption)))); done) | (refine RowI.below ?_ (by assumption); first | (simp [*]; done) | (refine RowI.drew ?_; simp [*]; done))))
    clear hK K
    (try simp only [Act.put, List.getElem_toArray, List.getElem_cons_zero, List.getElem_cons_succ, List.setIfInBounds_toArray, List.set_cons_zero, List.set_cons_succ])
    refine wpAnyH_take (i := 13) (v := ?_) rfl (by kernel_rfl) (by kernel_rfl) (by kernel_rfl) (fun _ _ _ h => h) (Or.inl ⟨by rfl, ?_⟩) (by assumption) ?_
    rotate_left
    · (intro w hSw; (try dsimp only at hSw); go_simp; (try with_reducible rfl))
    (try simp only [Act.put, List.getElem_toArray, List.getElem_cons_zero, List.getElem_cons_succ, List.setIfInBounds_toArray, List.set_cons_zero, List.set_cons_succ])
    refine wpAnyH_done (by kernel_rfl) ?_ _
    go_wp2
    go_returns
    refine ⟨rfl, ?_⟩
    repeat' (first
      | (with_reducible exact Below.refl _ _)
      | (with_reducible assumption)
      | (with_reducible refine Below.alloc ?_ ?_ _)
      | (with_reducible refine Below.drew ?_)
      | (with_reducible refine bdrewN ?_ _)
      | (with_reducible refine Below.setCell ?_ ?_ _)
      | (with_reducible refine bthen (by assumption) ?_ ?_)
      | go_size)
  ·
    cases ho : inB o 0 100000
    ·
      have hm : (inB k 0 100000 && inB o 0 100000 && inB r 0 20000) = false := by simp [hk, ho]
      obtain ⟨code, hcode⟩ : ∃ code, codeR z n f u step false = code := ⟨_, rfl⟩
      have hne : code ≠ 0 := by rw [← hcode]; exact codeR_false
      have hne2 : (code != 0) = true := by simpa using hne
      have HG := Lib.hid (show fWorkOf z n f u k o r step = (0, code) by unfold fWorkOf; rw [hm, hcode, if_neg hne])
      rw [HG.out]
      go_enter Try.func29, Try.ntmps29
      go_wp2
      refine wp_region_held_drew (S := fun w' => w'.cell? ⟨w.heap.size, 0, none⟩ = some (.slice (A) n c) ∧ w'.cell? ⟨w.heap.size, 1, none⟩ = some (.int .i64 (f)) ∧ w'.cell? ⟨w.heap.size, 2, none⟩ = some (.int .i64 (u)) ∧ w.heap.size < w'.heap.size ∧ RowI w' (A) z) (by kernel_rfl) ?_ (fun hHeld => ?_)
      · (((try dsimp only at *); (try go_split_ands); (repeat' apply And.intro) <;> first | (with_reducible assumption) | (rw [qc _ _ (by with_reducible assumption)]; with_reducible assumption) | (with_reducible exact qz _ (by with_reducible assumption)) | (with_reducible exact RowI.below (by with_reducible assumption) (by with_reducible assumption)) | (simp [*, go_sem]; done) | omega | (refine RowI.drew ?_; simp [*]; done) | ((repeat (first | (with_reducible assumption) | (with_reducible refine RowI.drew ?_) | (with_reducible refine RowI.drewN ?_ _) | (with_reducible refine RowI.alloc ?_ _) | (with_reducible refine RowI.below ?_ (by with_reducible assumption)))); done) | (refine RowI.below ?_ (by assumption); first | (simp [*]; done) | (refine RowI.drew ?_; simp [*]; done))))
      refine wpAnyH_take (i := 0) (v := ?_) rfl (by kernel_rfl) (by kernel_rfl) (by kernel_rfl) (fun _ _ _ h => h) (Or.inl ⟨by rfl, ?_⟩) (by assumption) ?_
      rotate_left
      · (intro w hSw; (try dsimp only at hSw); go_simp; (try with_reducible rfl))
      (try simp only [Act.put, List.getElem_toArray, List.getElem_cons_zero, List.getElem_cons_succ, List.setIfInBounds_toArray, List.set_cons_zero, List.set_cons_succ])
      refine wpAnyH_take (i := 1) (v := ?_) rfl (by kernel_rfl) (by kernel_rfl) (by kernel_rfl) (fun _ _ _ h => h) (Or.inl ⟨by rfl, ?_⟩) (by assumption) ?_
      rotate_left
      · (intro w hSw; (try dsimp only at hSw); go_simp; (try with_reducible rfl))
      (try simp only [Act.put, List.getElem_toArray, List.getElem_cons_zero, List.getElem_cons_succ, List.setIfInBounds_toArray, List.set_cons_zero, List.set_cons_succ])
      refine wpAnyH_take (i := 2) (v := ?_) rfl (by kernel_rfl) (by kernel_rfl) (by kernel_rfl) (fun _ _ _ h => h) (Or.inl ⟨by rfl, ?_⟩) (by assumption) ?_
      rotate_left
      · (intro w hSw; (try dsimp only at hSw); go_simp; (try with_reducible rfl))
      (try simp only [Act.put, List.getElem_toArray, List.getElem_cons_zero, List.getElem_cons_succ, List.setIfInBounds_toArray, List.set_cons_zero, List.set_cons_succ])
      refine wpAnyH_ready (rs := [3]) (by kernel_rfl) (by simp) ?_
      refine AllReadyH.cons rfl (fun K hK => ?_) AllReadyH.nil
      go_simp
      (first
        | (go_at_call 44; (apply Calls.mono; focus ((with_reducible apply (isKilos_v hk)); (all_goals (first | (with_reducible assumption) | omega | ((repeat (first | (with_reducible assumption) | (with_reducible refine RowI.drewN ?_ _) | (with_reducible refine RowI.drew ?_) | (with_reducible refine RowI.alloc ?_ _) | (with_reducible refine RowI.below ?_ (by with_reducible assumption)))); done) | assumption | (simp; done) | (simp [*]; done))); done)); rintro e w' ⟨rfl, rfl⟩)
        | (go_at_call 44; (apply Calls.mono; focus ((with_reducible apply (isKilos_v ho)); (all_goals (first | (with_reducible assumption) | omega | ((repeat (first | (with_reducible assumption) | (with_reducible refine RowI.drewN ?_ _) | (with_reducible refine RowI.drew ?_) | (with_reducible refine RowI.alloc ?_ _) | (with_reducible refine RowI.below ?_ (by with_reducible assumption)))); done) | assumption | (simp; done) | (simp [*]; done))); done)); rintro e w' ⟨rfl, rfl⟩)
        | (go_at_call 56; (apply Calls.mono; focus ((with_reducible apply (ridden_v hcode hz hn)); (all_goals (first | (with_reducible assumption) | omega | ((repeat (first | (with_reducible assumption) | (with_reducible refine RowI.drewN ?_ _) | (with_reducible refine RowI.drew ?_) | (with_reducible refine RowI.alloc ?_ _) | (with_reducible refine RowI.below ?_ (by with_reducible assumption)))); done) | assumption | (simp; done) | (simp [*]; done))); done)); rintro e w' ⟨rfl, hb⟩; obtain ⟨qc, qf, qz, qs⟩ := bfacts hb; (try simp only [World.size_alloc, World.size_setCell, World.size_drew, World.heap_drewN] at qs)))
      (try go_wp2_with fail)
      refine hK.out _ _ ?_ (fun hHeld => ?_)
      · (((try dsimp only at *); (try go_split_ands); (repeat' apply And.intro) <;> first | (with_reducible assumption) | (rw [qc _ _ (by with_reducible assumption)]; with_reducible assumption) | (with_reducible exact qz _ (by with_reducible assumption)) | (with_reducible exact RowI.below (by with_reducible assumption) (by with_reducible assumption)) | (simp [*, go_sem]; done) | omega | (refine RowI.drew ?_; simp [*]; done) | ((repeat (first | (with_reducible assumption) | (with_reducible refine RowI.drew ?_) | (with_reducible refine RowI.drewN ?_ _) | (with_reducible refine RowI.alloc ?_ _) | (with_reducible refine RowI.below ?_ (by with_reducible assumption)))); done) | (refine RowI.below ?_ (by assumption); first | (simp [*]; done) | (refine RowI.drew ?_; simp [*]; done))))
      clear hK K
      (try simp only [Act.put, List.getElem_toArray, List.getElem_cons_zero, List.getElem_cons_succ, List.setIfInBounds_toArray, List.set_cons_zero, List.set_cons_succ])
      refine wpAnyH_take (i := 4) (v := ?_) rfl (by kernel_rfl) (by kernel_rfl) (by kernel_rfl) (fun _ _ _ h => h) (Or.inl ⟨by rfl, ?_⟩) (by assumption) ?_
      rotate_left
      · (intro w hSw; (try dsimp only at hSw); go_simp; (try with_reducible rfl))
      (try simp only [Act.put, List.getElem_toArray, List.getElem_cons_zero, List.getElem_cons_succ, List.setIfInBounds_toArray, List.set_cons_zero, List.set_cons_succ])
      refine wpAnyH_take (i := 5) (v := ?_) rfl (by kernel_rfl) (by kernel_rfl) (by kernel_rfl) (fun _ _ _ h => h) (Or.inl ⟨by rfl, ?_⟩) (by assumption) ?_
      rotate_left
      · (intro w hSw; (try dsimp only at hSw); go_simp; (try with_reducible rfl))
      (try simp only [Act.put, List.getElem_toArray, List.getElem_cons_zero, List.getElem_cons_succ, List.setIfInBounds_toArray, List.set_cons_zero, List.set_cons_succ])
      refine wpAnyH_ready (rs := [6]) (by kernel_rfl) (by simp) ?_
      refine AllReadyH.cons rfl (fun K hK => ?_) AllReadyH.nil
      go_simp
      (first
        | (go_at_call 44; (apply Calls.mono; focus ((with_reducible apply (isKilos_v hk)); (all_goals (first | (with_reducible assumption) | omega | ((repeat (first | (with_reducible assumption) | (with_reducible refine RowI.drewN ?_ _) | (with_reducible refine RowI.drew ?_) | (with_reducible refine RowI.alloc ?_ _) | (with_reducible refine RowI.below ?_ (by with_reducible assumption)))); done) | assumption | (simp; done) | (simp [*]; done))); done)); rintro e w' ⟨rfl, rfl⟩)
        | (go_at_call 44; (apply Calls.mono; focus ((with_reducible apply (isKilos_v ho)); (all_goals (first | (with_reducible assumption) | omega | ((repeat (first | (with_reducible assumption) | (with_reducible refine RowI.drewN ?_ _) | (with_reducible refine RowI.drew ?_) | (with_reducible refine RowI.alloc ?_ _) | (with_reducible refine RowI.below ?_ (by with_reducible assumption)))); done) | assumption | (simp; done) | (simp [*]; done))); done)); rintro e w' ⟨rfl, rfl⟩)
        | (go_at_call 56; (apply Calls.mono; focus ((with_reducible apply (ridden_v hcode hz hn)); (all_goals (first | (with_reducible assumption) | omega | ((repeat (first | (with_reducible assumption) | (with_reducible refine RowI.drewN ?_ _) | (with_reducible refine RowI.drew ?_) | (with_reducible refine RowI.alloc ?_ _) | (with_reducible refine RowI.below ?_ (by with_reducible assumption)))); done) | assumption | (simp; done) | (simp [*]; done))); done)); rintro e w' ⟨rfl, hb⟩; obtain ⟨qc, qf, qz, qs⟩ := bfacts hb; (try simp only [World.size_alloc, World.size_setCell, World.size_drew, World.heap_drewN] at qs)))
      (try go_wp2_with fail)
      refine hK.out _ _ ?_ (fun hHeld => ?_)
      · (((try dsimp only at *); (try go_split_ands); (repeat' apply And.intro) <;> first | (with_reducible assumption) | (rw [qc _ _ (by with_reducible assumption)]; with_reducible assumption) | (with_reducible exact qz _ (by with_reducible assumption)) | (with_reducible exact RowI.below (by with_reducible assumption) (by with_reducible assumption)) | (simp [*, go_sem]; done) | omega | (refine RowI.drew ?_; simp [*]; done) | ((repeat (first | (with_reducible assumption) | (with_reducible refine RowI.drew ?_) | (with_reducible refine RowI.drewN ?_ _) | (with_reducible refine RowI.alloc ?_ _) | (with_reducible refine RowI.below ?_ (by with_reducible assumption)))); done) | (refine RowI.below ?_ (by assumption); first | (simp [*]; done) | (refine RowI.drew ?_; simp [*]; done))))
      clear hK K
      (try simp only [Act.put, List.getElem_toArray, List.getElem_cons_zero, List.getElem_cons_succ, List.setIfInBounds_toArray, List.set_cons_zero, List.set_cons_succ])
      refine wpAnyH_take (i := 7) (v := ?_) rfl (by kernel_rfl) (by kernel_rfl) (by kernel_rfl) (fun _ _ _ h => h) (Or.inl ⟨by rfl, ?_⟩) (by assumption) ?_
      rotate_left
      · (intro w hSw; (try dsimp only at hSw); go_simp; (try with_reducible rfl))
      (try simp only [Act.put, List.getElem_toArray, List.getElem_cons_zero, List.getElem_cons_succ, List.setIfInBounds_toArray, List.set_cons_zero, List.set_cons_succ])
      refine wpAnyH_take (i := 8) (v := ?_) rfl (by kernel_rfl) (by kernel_rfl) (by kernel_rfl) (fun _ _ _ h => h) (Or.inl ⟨by rfl, ?_⟩) (by assumption) ?_
      rotate_left
      · (intro w hSw; (try dsimp only at hSw); go_simp; (try with_reducible rfl))
      (try simp only [Act.put, List.getElem_toArray, List.getElem_cons_zero, List.getElem_cons_succ, List.setIfInBounds_toArray, List.set_cons_zero, List.set_cons_succ])
      refine wpAnyH_take (i := 9) (v := undef) rfl (by kernel_rfl) (by kernel_rfl) (by kernel_rfl) (fun _ _ _ h => h) (Or.inr ⟨by first | kernel_rfl | rfl, rfl⟩) (by assumption) ?_
      (try simp only [Act.put, List.getElem_toArray, List.getElem_cons_zero, List.getElem_cons_succ, List.setIfInBounds_toArray, List.set_cons_zero, List.set_cons_succ])
      refine wpAnyH_take (i := 10) (v := undef) rfl (by kernel_rfl) (by kernel_rfl) (by kernel_rfl) (fun _ _ _ h => h) (Or.inr ⟨by first | kernel_rfl | rfl, rfl⟩) (by assumption) ?_
      (try simp only [Act.put, List.getElem_toArray, List.getElem_cons_zero, List.getElem_cons_succ, List.setIfInBounds_toArray, List.set_cons_zero, List.set_cons_succ])
      refine wpAnyH_take (i := 11) (v := ?_) rfl (by kernel_rfl) (by kernel_rfl) (by kernel_rfl) (fun _ _ _ h => h) (Or.inl ⟨by rfl, ?_⟩) (by assumption) ?_
      rotate_left
      · (intro w hSw; (try dsimp only at hSw); go_simp; (try with_reducible rfl))
      (try simp only [Act.put, List.getElem_toArray, List.getElem_cons_zero, List.getElem_cons_succ, List.setIfInBounds_toArray, List.set_cons_zero, List.set_cons_succ])
      refine wpAnyH_ready (rs := [12]) (by kernel_rfl) (by simp) ?_
      refine AllReadyH.cons rfl (fun K hK => ?_) AllReadyH.nil
      go_simp
      (first
        | (go_at_call 44; (apply Calls.mono; focus ((with_reducible apply (isKilos_v hk)); (all_goals (first | (with_reducible assumption) | omega | ((repeat (first | (with_reducible assumption) | (with_reducible refine RowI.drewN ?_ _) | (with_reducible refine RowI.drew ?_) | (with_reducible refine RowI.alloc ?_ _) | (with_reducible refine RowI.below ?_ (by with_reducible assumption)))); done) | assumption | (simp; done) | (simp [*]; done))); done)); rintro e w' ⟨rfl, rfl⟩)
        | (go_at_call 44; (apply Calls.mono; focus ((with_reducible apply (isKilos_v ho)); (all_goals (first | (with_reducible assumption) | omega | ((repeat (first | (with_reducible assumption) | (with_reducible refine RowI.drewN ?_ _) | (with_reducible refine RowI.drew ?_) | (with_reducible refine RowI.alloc ?_ _) | (with_reducible refine RowI.below ?_ (by with_reducible assumption)))); done) | assumption | (simp; done) | (simp [*]; done))); done)); rintro e w' ⟨rfl, rfl⟩)
        | (go_at_call 56; (apply Calls.mono; focus ((with_reducible apply (ridden_v hcode hz hn)); (all_goals (first | (with_reducible assumption) | omega | ((repeat (first | (with_reducible assumption) | (with_reducible refine RowI.drewN ?_ _) | (with_reducible refine RowI.drew ?_) | (with_reducible refine RowI.alloc ?_ _) | (with_reducible refine RowI.below ?_ (by with_reducible assumption)))); done) | assumption | (simp; done) | (simp [*]; done))); done)); rintro e w' ⟨rfl, hb⟩; obtain ⟨qc, qf, qz, qs⟩ := bfacts hb; (try simp only [World.size_alloc, World.size_setCell, World.size_drew, World.heap_drewN] at qs)))
      (try go_wp2_with fail)
      refine hK.out _ _ ?_ (fun hHeld => ?_)
      · (((try dsimp only at *); (try go_split_ands); (repeat' apply And.intro) <;> first | (with_reducible assumption) | (rw [qc _ _ (by with_reducible assumption)]; with_reducible assumption) | (with_reducible exact qz _ (by with_reducible assumption)) | (with_reducible exact RowI.below (by with_reducible assumption) (by with_reducible assumption)) | (simp [*, go_sem]; done) | omega | (refine RowI.drew ?_; simp [*]; done) | ((repeat (first | (with_reducible assumption) | (with_reducible refine RowI.drew ?_) | (with_reducible refine RowI.drewN ?_ _) | (with_reducible refine RowI.alloc ?_ _) | (with_reducible refine RowI.below ?_ (by with_reducible assumption)))); done) | (refine RowI.below ?_ (by assumption); first | (simp [*]; done) | (refine RowI.drew ?_; simp [*]; done))))
      clear hK K
      (try simp only [Act.put, List.getElem_toArray, List.getElem_cons_zero, List.getElem_cons_succ, List.setIfInBounds_toArray, List.set_cons_zero, List.set_cons_succ])
      refine wpAnyH_take (i := 13) (v := ?_) rfl (by kernel_rfl) (by kernel_rfl) (by kernel_rfl) (fun _ _ _ h => h) (Or.inl ⟨by rfl, ?_⟩) (by assumption) ?_
      rotate_left
      · (intro w hSw; (try dsimp only at hSw); go_simp; (try with_reducible rfl))
      (try simp only [Act.put, List.getElem_toArray, List.getElem_cons_zero, List.getElem_cons_succ, List.setIfInBounds_toArray, List.set_cons_zero, List.set_cons_succ])
      refine wpAnyH_done (by kernel_rfl) ?_ _
      go_wp2
      go_returns
      refine ⟨rfl, ?_⟩
      repeat' (first
        | (with_reducible exact Below.refl _ _)
        | (with_reducible assumption)
        | (with_reducible refine Below.alloc ?_ ?_ _)
        | (with_reducible refine Below.drew ?_)
        | (with_reducible refine bdrewN ?_ _)
        | (with_reducible refine Below.setCell ?_ ?_ _)
        | (with_reducible refine bthen (by assumption) ?_ ?_)
        | go_size)
    ·
      cases hr : inB r 0 20000
      ·
        have hm : (inB k 0 100000 && inB o 0 100000 && inB r 0 20000) = false := by simp [hk, ho, hr]
        obtain ⟨code, hcode⟩ : ∃ code, codeR z n f u step false = code := ⟨_, rfl⟩
        have hne : code ≠ 0 := by rw [← hcode]; exact codeR_false
        have hne2 : (code != 0) = true := by simpa using hne
        have HG := Lib.hid (show fWorkOf z n f u k o r step = (0, code) by unfold fWorkOf; rw [hm, hcode, if_neg hne])
        rw [HG.out]
        go_enter Try.func29, Try.ntmps29
        go_wp2
        first
          | go_region_held3 (fun w' => w'.cell? ⟨w.heap.size, 0, none⟩ = some (.slice (A) n c) ∧ w'.cell? ⟨w.heap.size, 1, none⟩ = some (.int .i64 (f)) ∧ w'.cell? ⟨w.heap.size, 2, none⟩ = some (.int .i64 (u)) ∧ w.heap.size < w'.heap.size ∧ RowI w' (A) z) (((try dsimp only at *); (try go_split_ands); (repeat' apply And.intro) <;> first | (with_reducible assumption) | (rw [qc _ _ (by with_reducible assumption)]; with_reducible assumption) | (with_reducible exact qz _ (by with_reducible assumption)) | (with_reducible exact RowI.below (by with_reducible assumption) (by with_reducible assumption)) | (simp [*, go_sem]; done) | omega | (refine RowI.drew ?_; simp [*]; done) | ((repeat (first | (with_reducible assumption) | (with_reducible refine RowI.drew ?_) | (with_reducible refine RowI.drewN ?_ _) | (with_reducible refine RowI.alloc ?_ _) | (with_reducible refine RowI.below ?_ (by with_reducible assumption)))); done) | (refine RowI.below ?_ (by assumption); first | (simp [*]; done) | (refine RowI.drew ?_; simp [*]; done))))
              (first
                | (go_at_call 44; (apply Calls.mono; focus ((with_reducible apply (isKilos_v hk)); (all_goals (first | (with_reducible assumption) | omega | ((repeat (first | (with_reducible assumption) | (with_reducible refine RowI.drewN ?_ _) | (with_reducible refine RowI.drew ?_) | (with_reducible refine RowI.alloc ?_ _) | (with_reducible refine RowI.below ?_ (by with_reducible assumption)))); done) | assumption | (simp; done) | (simp [*]; done))); done)); rintro e w' ⟨rfl, rfl⟩)
                | (go_at_call 44; (apply Calls.mono; focus ((with_reducible apply (isKilos_v ho)); (all_goals (first | (with_reducible assumption) | omega | ((repeat (first | (with_reducible assumption) | (with_reducible refine RowI.drewN ?_ _) | (with_reducible refine RowI.drew ?_) | (with_reducible refine RowI.alloc ?_ _) | (with_reducible refine RowI.below ?_ (by with_reducible assumption)))); done) | assumption | (simp; done) | (simp [*]; done))); done)); rintro e w' ⟨rfl, rfl⟩)
                | (go_at_call 48; (apply Calls.mono; focus ((with_reducible apply (isRopeMass_v hr)); (all_goals (first | (with_reducible assumption) | omega | ((repeat (first | (with_reducible assumption) | (with_reducible refine RowI.drewN ?_ _) | (with_reducible refine RowI.drew ?_) | (with_reducible refine RowI.alloc ?_ _) | (with_reducible refine RowI.below ?_ (by with_reducible assumption)))); done) | assumption | (simp; done) | (simp [*]; done))); done)); rintro e w' ⟨rfl, rfl⟩)
                | (go_at_call 56; (apply Calls.mono; focus ((with_reducible apply (ridden_v hcode hz hn)); (all_goals (first | (with_reducible assumption) | omega | ((repeat (first | (with_reducible assumption) | (with_reducible refine RowI.drewN ?_ _) | (with_reducible refine RowI.drew ?_) | (with_reducible refine RowI.alloc ?_ _) | (with_reducible refine RowI.below ?_ (by with_reducible assumption)))); done) | assumption | (simp; done) | (simp [*]; done))); done)); rintro e w' ⟨rfl, hb⟩; obtain ⟨qc, qf, qz, qs⟩ := bfacts hb; (try simp only [World.size_alloc, World.size_setCell, World.size_drew, World.heap_drewN] at qs)))
          | fail
        go_wp2
        go_returns
        refine ⟨rfl, ?_⟩
        repeat' (first
          | (with_reducible exact Below.refl _ _)
          | (with_reducible assumption)
          | (with_reducible refine Below.alloc ?_ ?_ _)
          | (with_reducible refine Below.drew ?_)
          | (with_reducible refine bdrewN ?_ _)
          | (with_reducible refine Below.setCell ?_ ?_ _)
          | (with_reducible refine bthen (by assumption) ?_ ?_)
          | go_size)
      ·
        have hm : (inB k 0 100000 && inB o 0 100000 && inB r 0 20000) = true := by simp [hk, ho, hr]
        obtain ⟨code, hcode⟩ : ∃ code, codeR z n f u step true = code := ⟨_, rfl⟩
        by_cases hz0 : code = 0
        ·
          subst hz0
          have HG := Lib.hid (show fWorkOf z n f u k o r step = (workI z n k o r step, 0) by unfold fWorkOf; rw [hm, hcode, if_pos rfl])
          rw [HG.out]
          clear HG hm
          obtain ⟨ht, hst, _⟩ := codeR_zero hcode
          obtain ⟨s0, s1⟩ := inB_true hst
          obtain ⟨⟨n0, n1⟩, hs, ⟨L0, L1⟩, _⟩ := trackB_true ht
          obtain ⟨k0, k1⟩ := inB_true hk
          obtain ⟨o0, o1⟩ := inB_true ho
          obtain ⟨r0, r1⟩ := inB_true hr
          go_enter Try.func29, Try.ntmps29
          go_wp2
          first
            | go_region_held3 (fun w' => w'.cell? ⟨w.heap.size, 0, none⟩ = some (.slice (A) n c) ∧ w'.cell? ⟨w.heap.size, 1, none⟩ = some (.int .i64 (f)) ∧ w'.cell? ⟨w.heap.size, 2, none⟩ = some (.int .i64 (u)) ∧ w.heap.size < w'.heap.size ∧ RowI w' (A) z) (((try dsimp only at *); (try go_split_ands); (repeat' apply And.intro) <;> first | (with_reducible assumption) | (rw [qc _ _ (by with_reducible assumption)]; with_reducible assumption) | (with_reducible exact qz _ (by with_reducible assumption)) | (with_reducible exact RowI.below (by with_reducible assumption) (by with_reducible assumption)) | (simp [*, go_sem]; done) | omega | (refine RowI.drew ?_; simp [*]; done) | ((repeat (first | (with_reducible assumption) | (with_reducible refine RowI.drew ?_) | (with_reducible refine RowI.drewN ?_ _) | (with_reducible refine RowI.alloc ?_ _) | (with_reducible refine RowI.below ?_ (by with_reducible assumption)))); done) | (refine RowI.below ?_ (by assumption); first | (simp [*]; done) | (refine RowI.drew ?_; simp [*]; done))))
                (first
                  | (go_at_call 44; (apply Calls.mono; focus ((with_reducible apply (isKilos_v hk)); (all_goals (first | (with_reducible assumption) | omega | ((repeat (first | (with_reducible assumption) | (with_reducible refine RowI.drewN ?_ _) | (with_reducible refine RowI.drew ?_) | (with_reducible refine RowI.alloc ?_ _) | (with_reducible refine RowI.below ?_ (by with_reducible assumption)))); done) | assumption | (simp; done) | (simp [*]; done))); done)); rintro e w' ⟨rfl, rfl⟩)
                  | (go_at_call 44; (apply Calls.mono; focus ((with_reducible apply (isKilos_v ho)); (all_goals (first | (with_reducible assumption) | omega | ((repeat (first | (with_reducible assumption) | (with_reducible refine RowI.drewN ?_ _) | (with_reducible refine RowI.drew ?_) | (with_reducible refine RowI.alloc ?_ _) | (with_reducible refine RowI.below ?_ (by with_reducible assumption)))); done) | assumption | (simp; done) | (simp [*]; done))); done)); rintro e w' ⟨rfl, rfl⟩)
                  | (go_at_call 48; (apply Calls.mono; focus ((with_reducible apply (isRopeMass_v hr)); (all_goals (first | (with_reducible assumption) | omega | ((repeat (first | (with_reducible assumption) | (with_reducible refine RowI.drewN ?_ _) | (with_reducible refine RowI.drew ?_) | (with_reducible refine RowI.alloc ?_ _) | (with_reducible refine RowI.below ?_ (by with_reducible assumption)))); done) | assumption | (simp; done) | (simp [*]; done))); done)); rintro e w' ⟨rfl, rfl⟩)
                  | (go_at_call 56; (apply Calls.mono; focus ((with_reducible apply (ridden_v hcode hz hn)); (all_goals (first | (with_reducible assumption) | omega | ((repeat (first | (with_reducible assumption) | (with_reducible refine RowI.drewN ?_ _) | (with_reducible refine RowI.drew ?_) | (with_reducible refine RowI.alloc ?_ _) | (with_reducible refine RowI.below ?_ (by with_reducible assumption)))); done) | assumption | (simp; done) | (simp [*]; done))); done)); rintro e w' ⟨rfl, hb⟩; obtain ⟨qc, qf, qz, qs⟩ := bfacts hb; (try simp only [World.size_alloc, World.size_setCell, World.size_drew, World.heap_drewN] at qs)))
            | fail
          (try go_split_ands)
          have t0 : w'.cell? ⟨w.heap.size, 0, none⟩ = some (.slice A n c) := by first | assumption | simp [*]
          have t1 : w'.cell? ⟨w.heap.size, 1, none⟩ = some (.int .i64 f) := by first | assumption | simp [*]
          have t2 : w'.cell? ⟨w.heap.size, 2, none⟩ = some (.int .i64 u) := by first | assumption | simp [*]
          have t3 : w.heap.size < w'.heap.size := by first | assumption | omega
          have hBw : Below w.heap.size w w' := by
            repeat' (first
              | (with_reducible exact Below.refl _ _)
              | (with_reducible assumption)
              | (with_reducible refine Below.alloc ?_ ?_ _)
              | (with_reducible refine Below.drew ?_)
              | (with_reducible refine bdrewN ?_ _)
              | (with_reducible refine Below.setCell ?_ ?_ _)
              | (with_reducible refine bthen (by assumption) ?_ ?_)
              | go_size)
          have hrw : RowI w' A z := by first | assumption | exact hrow.below hBw
          have HTB := Lib.hid (show TrackBox w.heap.size A n c f u w' from ⟨t0, t1, t2, t3⟩)
          have HNE := Lib.hid (fun y y0 y1 w' hr => netPull_c A n c z f u y k o r hz n0 n1 hs y0 y1 L1 k0 k1 o0 o1 r0 r1 w' hr)
          have HNB := Lib.hid (fun y y0 y1 => netI_bd hs n0 (x := y) k0 k1 o0 o1 r0 r1 y0 y1 L1)
          have HLE := Lib.hid (fun w' hr => length_c A n c z f u hz n1 hs w' hr)
          have HR := Lib.hid hrow
          have HI := Lib.hid (show workF z n k o r step (lenTo z n).toNat 0 0 = workI z n k o r step from rfl)
          clear hrow hcode ht hst hk ho
          go_wp2
          go_loopw [13, 14] (fun sm x wr => ∃ (q : Nat) (y s : Int), 0 ≤ y ∧ y ≤ 6000000 ∧ lenTo z n - y ≤ q ∧ 0 ≤ s ∧ s ≤ 4500000000 * y ∧ Hid (workF z n k o r step q y s = workI z n k o r step) ∧ sm = .int .i64 s ∧ x = .int .i64 y ∧ Below w.heap.size w wr ∧ Hid (TrackBox w.heap.size A n c f u wr)) (fun _ x _ => (lenTo z n - intOf x).toNat)
          case atStart => exact ⟨(lenTo z n).toNat, 0, 0, by omega, by omega, by omega, by omega, by omega, HI, rfl, rfl, hBw, HTB⟩
          case round =>
            obtain ⟨q, y, s, y0, y1, hq, v0, v1, HK, rfl, rfl, hBr, HT⟩ := hrel
            have a0 := HT.out.c0
            have a1 := HT.out.c1
            have a2 := HT.out.c2
            have a3 := HT.out.lt
            have hrr := HR.out.below hBr
            have hsr := hBr.size
            by_cases hlt : y < lenTo z n
            · obtain ⟨q, rfl⟩ : ∃ q', q = q' + 1 := ⟨q - 1, by omega⟩
              obtain ⟨u0, u1⟩ := HNB.out y y0 (by omega)
              have hd0 : 0 ≤ lenTo z n - y := by omega
              have HN := Lib.hid (workF_on (z := z) (n := n) (k := k) (o := o) (r := r) (step := step) (q := q) (x := y) (s := s) hlt)
              obtain ⟨⟨p0, p1⟩, p2, p3⟩ := work_term (a := max 0 (netI z n y k o r)) (b := min step (lenTo z n - y)) (by omega) (by omega) (by omega) (by omega)
              rcases Int.lt_or_le 0 (netI z n y k o r) with hg | hg <;> rcases Int.lt_or_le (lenTo z n - y) step with hh | hh
              ·
                rw [show max 0 (netI z n y k o r) = netI z n y k o r by omega, show min step (lenTo z n - y) = lenTo z n - y by omega] at HN p0 p1 p2 p3
                have w1 : IntKind.i64.wrap (netI z n y k o r * (lenTo z n - y)) = netI z n y k o r * (lenTo z n - y) := wrap_in (by omega) (by omega)
                have w2 : (netI z n y k o r * (lenTo z n - y)).tdiv 1000 = netI z n y k o r * (lenTo z n - y) / 1000 := Int.tdiv_eq_ediv_of_nonneg p0
                have w3 : IntKind.i64.wrap (netI z n y k o r * (lenTo z n - y) / 1000) = netI z n y k o r * (lenTo z n - y) / 1000 := wrap_in (by omega) (by omega)
                have w4 : IntKind.i64.wrap (s + netI z n y k o r * (lenTo z n - y) / 1000) = s + netI z n y k o r * (lenTo z n - y) / 1000 := wrap_in (by omega) (by omega)
                have hif : (if lenTo z n - y < step then lenTo z n - y else step) = lenTo z n - y := by rw [if_pos (by omega)]
                have hmx : (if 0 < netI z n y k o r then netI z n y k o r else 0) = netI z n y k o r := by rw [if_pos (by omega)]
                have z0 : IntKind.i64.wrap 0 = 0 := rfl
                have HIF := Lib.hid hif
                have HMX := Lib.hid hmx
                clear hif hmx
                go_wp2_with (go_at_call 59; (refine (HLE.out _ hrr).mono ?_); rintro e wL ⟨rfl, hbL⟩; have hrL := hrr.below hbL; have hTL := HT.out.below hbL; have hsL := hbL.size; have b0 := hTL.c0; have b1 := hTL.c1; have b2 := hTL.c2; have b3 := hTL.lt; have HTL := Lib.hid hTL; clear hTL)
                have wd : IntKind.i64.wrap (lenTo z n - y) = lenTo z n - y := wrap_in (by omega) (by omega)
                have ws : IntKind.i64.wrap s = s := wrap_in (by omega) (by omega)
                first
                  | go_region_held3 (fun w' => w'.cell? ⟨w.heap.size, 0, none⟩ = some (.slice (A) n c) ∧ w'.cell? ⟨w.heap.size, 1, none⟩ = some (.int .i64 (f)) ∧ w'.cell? ⟨w.heap.size, 2, none⟩ = some (.int .i64 (u)) ∧ w.heap.size < w'.heap.size ∧ RowI w' (A) z) (((try dsimp only at *); (try go_split_ands); (repeat' apply And.intro) <;> first | (with_reducible assumption) | (rw [qc _ _ (by with_reducible assumption)]; with_reducible assumption) | (with_reducible exact qz _ (by with_reducible assumption)) | (with_reducible exact RowI.below (by with_reducible assumption) (by with_reducible assumption)) | (simp [*, go_sem]; done) | omega | (refine RowI.drew ?_; simp [*]; done) | ((repeat (first | (with_reducible assumption) | (with_reducible refine RowI.drew ?_) | (with_reducible refine RowI.drewN ?_ _) | (with_reducible refine RowI.alloc ?_ _) | (with_reducible refine RowI.below ?_ (by with_reducible assumption)))); done) | (refine RowI.below ?_ (by assumption); first | (simp [*]; done) | (refine RowI.drew ?_; simp [*]; done))))
                      (first
                        | (go_at_call 59; (apply Calls.mono; focus ((with_reducible apply (HLE.out)); (all_goals (first | (with_reducible assumption) | omega | ((repeat (first | (with_reducible assumption) | (with_reducible refine RowI.drewN ?_ _) | (with_reducible refine RowI.drew ?_) | (with_reducible refine RowI.alloc ?_ _) | (with_reducible refine RowI.below ?_ (by with_reducible assumption)))); done) | assumption | (simp; done) | (simp [*]; done))); done)); rintro e w' ⟨rfl, hb⟩; obtain ⟨qc, qf, qz, qs⟩ := bfacts hb; (try simp only [World.size_alloc, World.size_setCell, World.size_drew, World.heap_drewN] at qs))
                        | (go_at_call 53; (apply Calls.mono; focus ((with_reducible apply (HNE.out y y0 (by omega))); (all_goals (first | (with_reducible assumption) | omega | ((repeat (first | (with_reducible assumption) | (with_reducible refine RowI.drewN ?_ _) | (with_reducible refine RowI.drew ?_) | (with_reducible refine RowI.alloc ?_ _) | (with_reducible refine RowI.below ?_ (by with_reducible assumption)))); done) | assumption | (simp; done) | (simp [*]; done))); done)); rintro e w' ⟨rfl, hb⟩; obtain ⟨qc, qf, qz, qs⟩ := bfacts hb; (try simp only [World.size_alloc, World.size_setCell, World.size_drew, World.heap_drewN] at qs)))
                  | fail
                all_goals
                  try go_split_ands
                  have g0 : w'.cell? ⟨w.heap.size, 0, none⟩ = some (.slice A n c) := by assumption
                  have g1 : w'.cell? ⟨w.heap.size, 1, none⟩ = some (.int .i64 f) := by assumption
                  have g2 : w'.cell? ⟨w.heap.size, 2, none⟩ = some (.int .i64 u) := by assumption
                  have g3 : w.heap.size < w'.heap.size := by assumption
                  have HTN := Lib.hid (show TrackBox w.heap.size A n c f u w' from ⟨g0, g1, g2, g3⟩)
                  have hBn : Below w.heap.size w w' := by
                    repeat' (first
                      | (with_reducible exact Below.refl _ _)
                      | (with_reducible assumption)
                      | (with_reducible refine Below.alloc ?_ ?_ _)
                      | (with_reducible refine Below.drew ?_)
                      | (with_reducible refine bdrewN ?_ _)
                      | (with_reducible refine Below.setCell ?_ ?_ _)
                      | (with_reducible refine bthen (by assumption) ?_ ?_)
                      | go_size)
                  go_wp2
                  go_roundw
                  case rel => exact ⟨q, y + step, s + netI z n y k o r * (lenTo z n - y) / 1000, by omega, by omega, by omega, by omega, by omega, Lib.hid (HN.out.symm.trans HK.out), by first | rfl | (simp only [HIF.out, HMX.out, w1, w2, w3, w4]; done) | (simp only [HIF.out, HMX.out, Int.zero_mul, z0, Int.zero_tdiv, Int.add_zero, ws]; done), rfl, hBn, HTN⟩
                  case measure => simp [intOf]; omega
              ·
                rw [show max 0 (netI z n y k o r) = netI z n y k o r by omega, show min step (lenTo z n - y) = step by omega] at HN p0 p1 p2 p3
                have w1 : IntKind.i64.wrap (netI z n y k o r * (step)) = netI z n y k o r * (step) := wrap_in (by omega) (by omega)
                have w2 : (netI z n y k o r * (step)).tdiv 1000 = netI z n y k o r * (step) / 1000 := Int.tdiv_eq_ediv_of_nonneg p0
                have w3 : IntKind.i64.wrap (netI z n y k o r * (step) / 1000) = netI z n y k o r * (step) / 1000 := wrap_in (by omega) (by omega)
                have w4 : IntKind.i64.wrap (s + netI z n y k o r * (step) / 1000) = s + netI z n y k o r * (step) / 1000 := wrap_in (by omega) (by omega)
                have hif : (if lenTo z n - y < step then lenTo z n - y else step) = step := by rw [if_neg (by omega)]
                have hmx : (if 0 < netI z n y k o r then netI z n y k o r else 0) = netI z n y k o r := by rw [if_pos (by omega)]
                have z0 : IntKind.i64.wrap 0 = 0 := rfl
                have HIF := Lib.hid hif
                have HMX := Lib.hid hmx
                clear hif hmx
                go_wp2_with (go_at_call 59; (refine (HLE.out _ hrr).mono ?_); rintro e wL ⟨rfl, hbL⟩; have hrL := hrr.below hbL; have hTL := HT.out.below hbL; have hsL := hbL.size; have b0 := hTL.c0; have b1 := hTL.c1; have b2 := hTL.c2; have b3 := hTL.lt; have HTL := Lib.hid hTL; clear hTL)
                have wd : IntKind.i64.wrap (lenTo z n - y) = lenTo z n - y := wrap_in (by omega) (by omega)
                have ws : IntKind.i64.wrap s = s := wrap_in (by omega) (by omega)
                first
                  | go_region_held3 (fun w' => w'.cell? ⟨w.heap.size, 0, none⟩ = some (.slice (A) n c) ∧ w'.cell? ⟨w.heap.size, 1, none⟩ = some (.int .i64 (f)) ∧ w'.cell? ⟨w.heap.size, 2, none⟩ = some (.int .i64 (u)) ∧ w.heap.size < w'.heap.size ∧ RowI w' (A) z) (((try dsimp only at *); (try go_split_ands); (repeat' apply And.intro) <;> first | (with_reducible assumption) | (rw [qc _ _ (by with_reducible assumption)]; with_reducible assumption) | (with_reducible exact qz _ (by with_reducible assumption)) | (with_reducible exact RowI.below (by with_reducible assumption) (by with_reducible assumption)) | (simp [*, go_sem]; done) | omega | (refine RowI.drew ?_; simp [*]; done) | ((repeat (first | (with_reducible assumption) | (with_reducible refine RowI.drew ?_) | (with_reducible refine RowI.drewN ?_ _) | (with_reducible refine RowI.alloc ?_ _) | (with_reducible refine RowI.below ?_ (by with_reducible assumption)))); done) | (refine RowI.below ?_ (by assumption); first | (simp [*]; done) | (refine RowI.drew ?_; simp [*]; done))))
                      (first
                        | (go_at_call 59; (apply Calls.mono; focus ((with_reducible apply (HLE.out)); (all_goals (first | (with_reducible assumption) | omega | ((repeat (first | (with_reducible assumption) | (with_reducible refine RowI.drewN ?_ _) | (with_reducible refine RowI.drew ?_) | (with_reducible refine RowI.alloc ?_ _) | (with_reducible refine RowI.below ?_ (by with_reducible assumption)))); done) | assumption | (simp; done) | (simp [*]; done))); done)); rintro e w' ⟨rfl, hb⟩; obtain ⟨qc, qf, qz, qs⟩ := bfacts hb; (try simp only [World.size_alloc, World.size_setCell, World.size_drew, World.heap_drewN] at qs))
                        | (go_at_call 53; (apply Calls.mono; focus ((with_reducible apply (HNE.out y y0 (by omega))); (all_goals (first | (with_reducible assumption) | omega | ((repeat (first | (with_reducible assumption) | (with_reducible refine RowI.drewN ?_ _) | (with_reducible refine RowI.drew ?_) | (with_reducible refine RowI.alloc ?_ _) | (with_reducible refine RowI.below ?_ (by with_reducible assumption)))); done) | assumption | (simp; done) | (simp [*]; done))); done)); rintro e w' ⟨rfl, hb⟩; obtain ⟨qc, qf, qz, qs⟩ := bfacts hb; (try simp only [World.size_alloc, World.size_setCell, World.size_drew, World.heap_drewN] at qs)))
                  | fail
                all_goals
                  try go_split_ands
                  have g0 : w'.cell? ⟨w.heap.size, 0, none⟩ = some (.slice A n c) := by assumption
                  have g1 : w'.cell? ⟨w.heap.size, 1, none⟩ = some (.int .i64 f) := by assumption
                  have g2 : w'.cell? ⟨w.heap.size, 2, none⟩ = some (.int .i64 u) := by assumption
                  have g3 : w.heap.size < w'.heap.size := by assumption
                  have HTN := Lib.hid (show TrackBox w.heap.size A n c f u w' from ⟨g0, g1, g2, g3⟩)
                  have hBn : Below w.heap.size w w' := by
                    repeat' (first
                      | (with_reducible exact Below.refl _ _)
                      | (with_reducible assumption)
                      | (with_reducible refine Below.alloc ?_ ?_ _)
                      | (with_reducible refine Below.drew ?_)
                      | (with_reducible refine bdrewN ?_ _)
                      | (with_reducible refine Below.setCell ?_ ?_ _)
                      | (with_reducible refine bthen (by assumption) ?_ ?_)
                      | go_size)
                  go_wp2
                  go_roundw
                  case rel => exact ⟨q, y + step, s + netI z n y k o r * (step) / 1000, by omega, by omega, by omega, by omega, by omega, Lib.hid (HN.out.symm.trans HK.out), by first | rfl | (simp only [HIF.out, HMX.out, w1, w2, w3, w4]; done) | (simp only [HIF.out, HMX.out, Int.zero_mul, z0, Int.zero_tdiv, Int.add_zero, ws]; done), rfl, hBn, HTN⟩
                  case measure => simp [intOf]; omega
              ·
                rw [show max 0 (netI z n y k o r) = 0 by omega, show min step (lenTo z n - y) = lenTo z n - y by omega, Int.zero_mul, Int.zero_ediv, Int.add_zero] at HN
                have hif : (if lenTo z n - y < step then lenTo z n - y else step) = lenTo z n - y := by rw [if_pos (by omega)]
                have hmx : (if 0 < netI z n y k o r then netI z n y k o r else 0) = 0 := by rw [if_neg (by omega)]
                have z0 : IntKind.i64.wrap 0 = 0 := rfl
                have HIF := Lib.hid hif
                have HMX := Lib.hid hmx
                clear hif hmx
                go_wp2_with (go_at_call 59; (refine (HLE.out _ hrr).mono ?_); rintro e wL ⟨rfl, hbL⟩; have hrL := hrr.below hbL; have hTL := HT.out.below hbL; have hsL := hbL.size; have b0 := hTL.c0; have b1 := hTL.c1; have b2 := hTL.c2; have b3 := hTL.lt; have HTL := Lib.hid hTL; clear hTL)
                have wd : IntKind.i64.wrap (lenTo z n - y) = lenTo z n - y := wrap_in (by omega) (by omega)
                have ws : IntKind.i64.wrap s = s := wrap_in (by omega) (by omega)
                first
                  | go_region_held3 (fun w' => w'.cell? ⟨w.heap.size, 0, none⟩ = some (.slice (A) n c) ∧ w'.cell? ⟨w.heap.size, 1, none⟩ = some (.int .i64 (f)) ∧ w'.cell? ⟨w.heap.size, 2, none⟩ = some (.int .i64 (u)) ∧ w.heap.size < w'.heap.size ∧ RowI w' (A) z) (((try dsimp only at *); (try go_split_ands); (repeat' apply And.intro) <;> first | (with_reducible assumption) | (rw [qc _ _ (by with_reducible assumption)]; with_reducible assumption) | (with_reducible exact qz _ (by with_reducible assumption)) | (with_reducible exact RowI.below (by with_reducible assumption) (by with_reducible assumption)) | (simp [*, go_sem]; done) | omega | (refine RowI.drew ?_; simp [*]; done) | ((repeat (first | (with_reducible assumption) | (with_reducible refine RowI.drew ?_) | (with_reducible refine RowI.drewN ?_ _) | (with_reducible refine RowI.alloc ?_ _) | (with_reducible refine RowI.below ?_ (by with_reducible assumption)))); done) | (refine RowI.below ?_ (by assumption); first | (simp [*]; done) | (refine RowI.drew ?_; simp [*]; done))))
                      (first
                        | (go_at_call 59; (apply Calls.mono; focus ((with_reducible apply (HLE.out)); (all_goals (first | (with_reducible assumption) | omega | ((repeat (first | (with_reducible assumption) | (with_reducible refine RowI.drewN ?_ _) | (with_reducible refine RowI.drew ?_) | (with_reducible refine RowI.alloc ?_ _) | (with_reducible refine RowI.below ?_ (by with_reducible assumption)))); done) | assumption | (simp; done) | (simp [*]; done))); done)); rintro e w' ⟨rfl, hb⟩; obtain ⟨qc, qf, qz, qs⟩ := bfacts hb; (try simp only [World.size_alloc, World.size_setCell, World.size_drew, World.heap_drewN] at qs))
                        | (go_at_call 53; (apply Calls.mono; focus ((with_reducible apply (HNE.out y y0 (by omega))); (all_goals (first | (with_reducible assumption) | omega | ((repeat (first | (with_reducible assumption) | (with_reducible refine RowI.drewN ?_ _) | (with_reducible refine RowI.drew ?_) | (with_reducible refine RowI.alloc ?_ _) | (with_reducible refine RowI.below ?_ (by with_reducible assumption)))); done) | assumption | (simp; done) | (simp [*]; done))); done)); rintro e w' ⟨rfl, hb⟩; obtain ⟨qc, qf, qz, qs⟩ := bfacts hb; (try simp only [World.size_alloc, World.size_setCell, World.size_drew, World.heap_drewN] at qs)))
                  | fail
                all_goals
                  try go_split_ands
                  have g0 : w'.cell? ⟨w.heap.size, 0, none⟩ = some (.slice A n c) := by assumption
                  have g1 : w'.cell? ⟨w.heap.size, 1, none⟩ = some (.int .i64 f) := by assumption
                  have g2 : w'.cell? ⟨w.heap.size, 2, none⟩ = some (.int .i64 u) := by assumption
                  have g3 : w.heap.size < w'.heap.size := by assumption
                  have HTN := Lib.hid (show TrackBox w.heap.size A n c f u w' from ⟨g0, g1, g2, g3⟩)
                  have hBn : Below w.heap.size w w' := by
                    repeat' (first
                      | (with_reducible exact Below.refl _ _)
                      | (with_reducible assumption)
                      | (with_reducible refine Below.alloc ?_ ?_ _)
                      | (with_reducible refine Below.drew ?_)
                      | (with_reducible refine bdrewN ?_ _)
                      | (with_reducible refine Below.setCell ?_ ?_ _)
                      | (with_reducible refine bthen (by assumption) ?_ ?_)
                      | go_size)
                  go_wp2
                  go_roundw
                  case rel => exact ⟨q, y + step, s, by omega, by omega, by omega, by omega, by omega, Lib.hid (HN.out.symm.trans HK.out), by first | rfl | (simp only [HIF.out, HMX.out, ws]; done) | (simp only [HIF.out, HMX.out, Int.zero_mul, z0, Int.zero_tdiv, Int.add_zero, ws]; done), rfl, hBn, HTN⟩
                  case measure => simp [intOf]; omega
              ·
                rw [show max 0 (netI z n y k o r) = 0 by omega, show min step (lenTo z n - y) = step by omega, Int.zero_mul, Int.zero_ediv, Int.add_zero] at HN
                have hif : (if lenTo z n - y < step then lenTo z n - y else step) = step := by rw [if_neg (by omega)]
                have hmx : (if 0 < netI z n y k o r then netI z n y k o r else 0) = 0 := by rw [if_neg (by omega)]
                have z0 : IntKind.i64.wrap 0 = 0 := rfl
                have HIF := Lib.hid hif
                have HMX := Lib.hid hmx
                clear hif hmx
                go_wp2_with (go_at_call 59; (refine (HLE.out _ hrr).mono ?_); rintro e wL ⟨rfl, hbL⟩; have hrL := hrr.below hbL; have hTL := HT.out.below hbL; have hsL := hbL.size; have b0 := hTL.c0; have b1 := hTL.c1; have b2 := hTL.c2; have b3 := hTL.lt; have HTL := Lib.hid hTL; clear hTL)
                have wd : IntKind.i64.wrap (lenTo z n - y) = lenTo z n - y := wrap_in (by omega) (by omega)
                have ws : IntKind.i64.wrap s = s := wrap_in (by omega) (by omega)
                first
                  | go_region_held3 (fun w' => w'.cell? ⟨w.heap.size, 0, none⟩ = some (.slice (A) n c) ∧ w'.cell? ⟨w.heap.size, 1, none⟩ = some (.int .i64 (f)) ∧ w'.cell? ⟨w.heap.size, 2, none⟩ = some (.int .i64 (u)) ∧ w.heap.size < w'.heap.size ∧ RowI w' (A) z) (((try dsimp only at *); (try go_split_ands); (repeat' apply And.intro) <;> first | (with_reducible assumption) | (rw [qc _ _ (by with_reducible assumption)]; with_reducible assumption) | (with_reducible exact qz _ (by with_reducible assumption)) | (with_reducible exact RowI.below (by with_reducible assumption) (by with_reducible assumption)) | (simp [*, go_sem]; done) | omega | (refine RowI.drew ?_; simp [*]; done) | ((repeat (first | (with_reducible assumption) | (with_reducible refine RowI.drew ?_) | (with_reducible refine RowI.drewN ?_ _) | (with_reducible refine RowI.alloc ?_ _) | (with_reducible refine RowI.below ?_ (by with_reducible assumption)))); done) | (refine RowI.below ?_ (by assumption); first | (simp [*]; done) | (refine RowI.drew ?_; simp [*]; done))))
                      (first
                        | (go_at_call 59; (apply Calls.mono; focus ((with_reducible apply (HLE.out)); (all_goals (first | (with_reducible assumption) | omega | ((repeat (first | (with_reducible assumption) | (with_reducible refine RowI.drewN ?_ _) | (with_reducible refine RowI.drew ?_) | (with_reducible refine RowI.alloc ?_ _) | (with_reducible refine RowI.below ?_ (by with_reducible assumption)))); done) | assumption | (simp; done) | (simp [*]; done))); done)); rintro e w' ⟨rfl, hb⟩; obtain ⟨qc, qf, qz, qs⟩ := bfacts hb; (try simp only [World.size_alloc, World.size_setCell, World.size_drew, World.heap_drewN] at qs))
                        | (go_at_call 53; (apply Calls.mono; focus ((with_reducible apply (HNE.out y y0 (by omega))); (all_goals (first | (with_reducible assumption) | omega | ((repeat (first | (with_reducible assumption) | (with_reducible refine RowI.drewN ?_ _) | (with_reducible refine RowI.drew ?_) | (with_reducible refine RowI.alloc ?_ _) | (with_reducible refine RowI.below ?_ (by with_reducible assumption)))); done) | assumption | (simp; done) | (simp [*]; done))); done)); rintro e w' ⟨rfl, hb⟩; obtain ⟨qc, qf, qz, qs⟩ := bfacts hb; (try simp only [World.size_alloc, World.size_setCell, World.size_drew, World.heap_drewN] at qs)))
                  | fail
                all_goals
                  try go_split_ands
                  have g0 : w'.cell? ⟨w.heap.size, 0, none⟩ = some (.slice A n c) := by assumption
                  have g1 : w'.cell? ⟨w.heap.size, 1, none⟩ = some (.int .i64 f) := by assumption
                  have g2 : w'.cell? ⟨w.heap.size, 2, none⟩ = some (.int .i64 u) := by assumption
                  have g3 : w.heap.size < w'.heap.size := by assumption
                  have HTN := Lib.hid (show TrackBox w.heap.size A n c f u w' from ⟨g0, g1, g2, g3⟩)
                  have hBn : Below w.heap.size w w' := by
                    repeat' (first
                      | (with_reducible exact Below.refl _ _)
                      | (with_reducible assumption)
                      | (with_reducible refine Below.alloc ?_ ?_ _)
                      | (with_reducible refine Below.drew ?_)
                      | (with_reducible refine bdrewN ?_ _)
                      | (with_reducible refine Below.setCell ?_ ?_ _)
                      | (with_reducible refine bthen (by assumption) ?_ ?_)
                      | go_size)
                  go_wp2
                  go_roundw
                  case rel => exact ⟨q, y + step, s, by omega, by omega, by omega, by omega, by omega, Lib.hid (HN.out.symm.trans HK.out), by first | rfl | (simp only [HIF.out, HMX.out, ws]; done) | (simp only [HIF.out, HMX.out, Int.zero_mul, z0, Int.zero_tdiv, Int.add_zero, ws]; done), rfl, hBn, HTN⟩
                  case measure => simp [intOf]; omega
            · have HE := Lib.hid (workF_end (z := z) (n := n) (k := k) (o := o) (r := r) (step := step) (q := q) (s := s) hlt)
              go_wp2_with (go_at_call 59; (refine (HLE.out _ hrr).mono ?_); rintro e wL ⟨rfl, hbL⟩; have hrL := hrr.below hbL; have hTL := HT.out.below hbL; have hsL := hbL.size; have b0 := hTL.c0; have b1 := hTL.c1; have b2 := hTL.c2; have b3 := hTL.lt; have HTL := Lib.hid hTL; clear hTL)
              go_returns
              exact ⟨by (rw [← HK.out, HE.out]) <;> rfl, hBr.trans (hbL.mono hsr)⟩
        ·
          have hne2 : (code != 0) = true := by simpa using hz0
          have HG := Lib.hid (show fWorkOf z n f u k o r step = (0, code) by unfold fWorkOf; rw [hm, hcode, if_neg hz0])
          rw [HG.out]
          go_enter Try.func29, Try.ntmps29
          go_wp2
          first
            | go_region_held3 (fun w' => w'.cell? ⟨w.heap.size, 0, none⟩ = some (.slice (A) n c) ∧ w'.cell? ⟨w.heap.size, 1, none⟩ = some (.int .i64 (f)) ∧ w'.cell? ⟨w.heap.size, 2, none⟩ = some (.int .i64 (u)) ∧ w.heap.size < w'.heap.size ∧ RowI w' (A) z) (((try dsimp only at *); (try go_split_ands); (repeat' apply And.intro) <;> first | (with_reducible assumption) | (rw [qc _ _ (by with_reducible assumption)]; with_reducible assumption) | (with_reducible exact qz _ (by with_reducible assumption)) | (with_reducible exact RowI.below (by with_reducible assumption) (by with_reducible assumption)) | (simp [*, go_sem]; done) | omega | (refine RowI.drew ?_; simp [*]; done) | ((repeat (first | (with_reducible assumption) | (with_reducible refine RowI.drew ?_) | (with_reducible refine RowI.drewN ?_ _) | (with_reducible refine RowI.alloc ?_ _) | (with_reducible refine RowI.below ?_ (by with_reducible assumption)))); done) | (refine RowI.below ?_ (by assumption); first | (simp [*]; done) | (refine RowI.drew ?_; simp [*]; done))))
                (first
                  | (go_at_call 44; (apply Calls.mono; focus ((with_reducible apply (isKilos_v hk)); (all_goals (first | (with_reducible assumption) | omega | ((repeat (first | (with_reducible assumption) | (with_reducible refine RowI.drewN ?_ _) | (with_reducible refine RowI.drew ?_) | (with_reducible refine RowI.alloc ?_ _) | (with_reducible refine RowI.below ?_ (by with_reducible assumption)))); done) | assumption | (simp; done) | (simp [*]; done))); done)); rintro e w' ⟨rfl, rfl⟩)
                  | (go_at_call 44; (apply Calls.mono; focus ((with_reducible apply (isKilos_v ho)); (all_goals (first | (with_reducible assumption) | omega | ((repeat (first | (with_reducible assumption) | (with_reducible refine RowI.drewN ?_ _) | (with_reducible refine RowI.drew ?_) | (with_reducible refine RowI.alloc ?_ _) | (with_reducible refine RowI.below ?_ (by with_reducible assumption)))); done) | assumption | (simp; done) | (simp [*]; done))); done)); rintro e w' ⟨rfl, rfl⟩)
                  | (go_at_call 48; (apply Calls.mono; focus ((with_reducible apply (isRopeMass_v hr)); (all_goals (first | (with_reducible assumption) | omega | ((repeat (first | (with_reducible assumption) | (with_reducible refine RowI.drewN ?_ _) | (with_reducible refine RowI.drew ?_) | (with_reducible refine RowI.alloc ?_ _) | (with_reducible refine RowI.below ?_ (by with_reducible assumption)))); done) | assumption | (simp; done) | (simp [*]; done))); done)); rintro e w' ⟨rfl, rfl⟩)
                  | (go_at_call 56; (apply Calls.mono; focus ((with_reducible apply (ridden_v hcode hz hn)); (all_goals (first | (with_reducible assumption) | omega | ((repeat (first | (with_reducible assumption) | (with_reducible refine RowI.drewN ?_ _) | (with_reducible refine RowI.drew ?_) | (with_reducible refine RowI.alloc ?_ _) | (with_reducible refine RowI.below ?_ (by with_reducible assumption)))); done) | assumption | (simp; done) | (simp [*]; done))); done)); rintro e w' ⟨rfl, hb⟩; obtain ⟨qc, qf, qz, qs⟩ := bfacts hb; (try simp only [World.size_alloc, World.size_setCell, World.size_drew, World.heap_drewN] at qs)))
            | fail
          go_wp2
          go_returns
          refine ⟨rfl, ?_⟩
          repeat' (first
            | (with_reducible exact Below.refl _ _)
            | (with_reducible assumption)
            | (with_reducible refine Below.alloc ?_ ?_ _)
            | (with_reducible refine Below.drew ?_)
            | (with_reducible refine bdrewN ?_ _)
            | (with_reducible refine Below.setCell ?_ ?_ _)
            | (with_reducible refine bthen (by assumption) ?_ ?_)
            | go_size)
set_option maxHeartbeats 2000000 in
theorem specWorkOf_c (A : Option Addr) (n c : Nat) (z : List Int) (f u k o r step : Int) (hz : z.length = n * 2) (hn : n ≤ 1048576) (w : World) (hrow : RowI w A z) : Calls Try.prog 28 #[.agg #[.slice A n c, .int .i64 f, .int .i64 u], .int .i64 k, .int .i64 o, .int .i64 r, .int .i64 step] w fun e w' => e = .returned (.tuple #[.int .i64 (fWorkOf z n f u k o r step).1, .int .i64 (fWorkOf z n f u k o r step).2]) ∧ Below w.heap.size w w' := by
  obtain ⟨m, hm⟩ : ∃ m, (inB k 0 100000 && inB o 0 100000 && inB r 0 20000) = m := ⟨_, rfl⟩
  have hask : (inB k 0 100000 && inB o 0 100000 && inB r 0 20000) = m := hm
  obtain ⟨code, hcode⟩ : ∃ code, codeR z n f u step m = code := ⟨_, rfl⟩
  by_cases hz0 : code = 0
  ·
    subst hz0
    have HG := Lib.hid (show fWorkOf z n f u k o r step = (workI z n k o r step, 0) by unfold fWorkOf; rw [hm, hcode, if_pos rfl])
    rw [HG.out]
    clear HG
    obtain ⟨ht, hst, rfl⟩ := codeR_zero hcode
    obtain ⟨s0, s1⟩ := inB_true hst
    simp only [Bool.and_eq_true] at hm
    obtain ⟨⟨hk, ho⟩, hr⟩ := hm
    obtain ⟨⟨n0, n1⟩, hs, ⟨L0, L1⟩, _⟩ := trackB_true ht
    obtain ⟨k0, k1⟩ := inB_true hk
    obtain ⟨o0, o1⟩ := inB_true ho
    obtain ⟨r0, r1⟩ := inB_true hr
    go_enter Try.func28, Try.ntmps28
    go_wp2_with
      (first
        | (go_at_call 54; (apply Calls.mono; focus ((with_reducible apply (l07Run_v (A := A) (c := c) hask hcode _ hz hn)); (all_goals (first | (with_reducible assumption) | omega | ((repeat (first | (with_reducible assumption) | (with_reducible refine RowI.drewN ?_ _) | (with_reducible refine RowI.drew ?_) | (with_reducible refine RowI.alloc ?_ _) | (with_reducible refine RowI.below ?_ (by with_reducible assumption)))); done) | assumption | (simp; done) | (simp [*]; done))); done)); rintro e w' ⟨rfl, nq, rfl⟩)
        | (go_at_call 55; (apply Calls.mono; focus ((with_reducible apply (l03Length_c A n c z _ hz n1 hs)); (all_goals (first | (with_reducible assumption) | omega | ((repeat (first | (with_reducible assumption) | (with_reducible refine RowI.drewN ?_ _) | (with_reducible refine RowI.drew ?_) | (with_reducible refine RowI.alloc ?_ _) | (with_reducible refine RowI.below ?_ (by with_reducible assumption)))); done) | assumption | (simp; done) | (simp [*]; done))); done)); rintro e w' ⟨rfl, rfl⟩))
    have hr1 := hrow.alloc (.cells #[.slice A n c, .int .i64 f, .int .i64 u] 30)
    have tb := TrackBox.new w 30 A n c f u
    have hBw : Below w.heap.size w (w.alloc (.cells #[.slice A n c, .int .i64 f, .int .i64 u] 30)) := (Below.refl _ _).alloc (Nat.le_refl _) _
    generalize w.alloc (.cells #[.slice A n c, .int .i64 f, .int .i64 u] 30) = W at *
    have t0 := tb.c0
    have t1 := tb.c1
    have t2 := tb.c2
    have HNE := Lib.hid (fun y y0 y1 w' hr h0 => l07Net_c A n c z y k o r w.heap.size hz n0 n1 hs y0 y1 L1 k0 k1 o0 o1 r0 r1 w' hr h0)
    have HNB := Lib.hid (fun y y0 y1 => netI_bd hs n0 (x := y) k0 k1 o0 o1 r0 r1 y0 y1 L1)
    have HLE := Lib.hid (fun w' hr h0 => l03Length_c A n c z w.heap.size hz n1 hs w' hr h0)
    clear hrow hcode ht hst hask hk ho
    have HI := Lib.hid (show workF z n k o r step (lenTo z n).toNat 0 0 = workI z n k o r step from rfl)
    go_loopw [14, 15] (fun sm x wr => ∃ (q : Nat) (y s : Int), 0 ≤ y ∧ y ≤ 6000000 ∧ lenTo z n - y ≤ q ∧ 0 ≤ s ∧ s ≤ 4500000000 * y ∧ Hid (workF z n k o r step q y s = workI z n k o r step) ∧ sm = .int .i64 s ∧ x = .int .i64 y ∧ ∃ j, wr = W.drewN j) (fun _ x _ => (lenTo z n - intOf x).toNat)
    case atStart => exact ⟨(lenTo z n).toNat, 0, 0, by omega, by omega, by omega, by omega, by omega, HI, rfl, rfl, (by first | exact ⟨_, rfl⟩ | exact ⟨_, World.drewN_drewN _ _ _⟩ | exact ⟨0, rfl⟩)⟩
    case round =>
      obtain ⟨q, y, s, y0, y1, hq, v0, v1, HK, rfl, rfl, j, rfl⟩ := hrel
      by_cases hlt : y < lenTo z n
      · obtain ⟨q, rfl⟩ : ∃ q', q = q' + 1 := ⟨q - 1, by omega⟩
        obtain ⟨u0, u1⟩ := HNB.out y y0 (by omega)
        have hd0 : 0 ≤ lenTo z n - y := by omega
        have HN := Lib.hid (workF_on (z := z) (n := n) (k := k) (o := o) (r := r) (step := step) (q := q) (x := y) (s := s) hlt)
        obtain ⟨⟨p0, p1⟩, p2, p3⟩ := work_term (a := max 0 (netI z n y k o r)) (b := min step (lenTo z n - y)) (by omega) (by omega) (by omega) (by omega)
        have hy1 : y ≤ lenTo z n := by omega
        go_wp2_with
          (first
            | (go_at_call 52; (refine (HNE.out y y0 hy1 _ (hr1.drewN _) t0).mono ?_); rintro e w' ⟨rfl, nq, rfl⟩)
            | (go_at_call 60; go_call (l00Max_c _ _ _); rintro e w' ⟨rfl, rfl⟩)
            | (go_at_call 61; go_call (l00Min_c _ _ _); rintro e w' ⟨rfl, rfl⟩))
        go_roundw
        case rel => exact ⟨q, y + step, _, by omega, by omega, by omega, by omega, by omega, Lib.hid (HN.out.symm.trans HK.out), rfl, rfl, (by first | exact ⟨_, rfl⟩ | exact ⟨_, World.drewN_drewN _ _ _⟩ | exact ⟨0, rfl⟩)⟩
        case measure => simp [intOf]; omega
      · have HE := Lib.hid (workF_end (z := z) (n := n) (k := k) (o := o) (r := r) (step := step) (q := q) (s := s) hlt)
        go_wp2
        go_returns
        exact ⟨by (rw [← HK.out, HE.out]) <;> rfl, bdrewN hBw _⟩
  ·
    have hne2 : (code != 0) = true := by simpa using hz0
    have HG := Lib.hid (show fWorkOf z n f u k o r step = (0, code) by unfold fWorkOf; rw [hm, hcode, if_neg hz0])
    rw [HG.out]
    go_enter Try.func28, Try.ntmps28
    go_wp2_with
      (first
        | (go_at_call 54; (apply Calls.mono; focus ((with_reducible apply (l07Run_v (A := A) (c := c) hask hcode _ hz hn)); (all_goals (first | (with_reducible assumption) | omega | ((repeat (first | (with_reducible assumption) | (with_reducible refine RowI.drewN ?_ _) | (with_reducible refine RowI.drew ?_) | (with_reducible refine RowI.alloc ?_ _) | (with_reducible refine RowI.below ?_ (by with_reducible assumption)))); done) | assumption | (simp; done) | (simp [*]; done))); done)); rintro e w' ⟨rfl, nq, rfl⟩))
    go_returns
    refine ⟨rfl, ?_⟩
    repeat' (first
      | (with_reducible exact Below.refl _ _)
      | (with_reducible assumption)
      | (with_reducible refine Below.alloc ?_ ?_ _)
      | (with_reducible refine Below.drew ?_)
      | (with_reducible refine bdrewN ?_ _)
      | (with_reducible refine Below.setCell ?_ ?_ _)
      | (with_reducible refine bthen (by assumption) ?_ ?_)
      | go_size)
set_option maxHeartbeats 2000000 in
theorem walk_FnExactWorkOf (A : Option Addr) (n c : Nat) (z : List Int) (f u : Int) (k : Int) (o : Int) (r : Int) (step : Int) (w : World) (h : StructArg 2 w A n z) (_ : I64 f) (_ : I64 u) (_ : I64 k) (_ : I64 o) (_ : I64 r) (_ : I64 step) : Calls Try.prog 9 #[.agg #[.slice A n c, .int .i64 f, .int .i64 u], .int .i64 k, .int .i64 o, .int .i64 r, .int .i64 step] w fun e w' => e = .returned (.bool true) ∧ Below w.heap.size w w' := by
  obtain ⟨hz, hmax, hr, _⟩ := h
  have HSZ := Lib.hid (szTrack_c A n c f u hmax)
  by_cases hn : n ≤ 1048576
  · rw [if_pos hn] at HSZ
    have hn1 : (0 : Int) ≤ 1048576 - n := by omega
    have tb0 := (TrackBox.new w 24 A n c f u)
    have hr0 := hr.alloc (.cells #[.slice A n c, .int .i64 f, .int .i64 u] 24)
    go_enter Try.func9, Try.ntmps9
    go_wp2_with (go_at_call 13; (refine (HSZ.out _).mono ?_); rintro e w1 ⟨rfl, hb1⟩; have tb1 := tb0.below hb1; have a10 := tb1.c0; have a11 := tb1.c1; have a12 := tb1.c2; have hr1 := hr0.below hb1)
    go_wp2_with (go_at_call 15; (refine (toTrack_c A n c z f u hz hn _ hr1).mono ?_); rintro e w2 ⟨B, rfl, hR2, hb2⟩; have tb2 := tb1.below hb2; have a20 := tb2.c0; have a21 := tb2.c1; have a22 := tb2.c2; have hr2 := hr1.below hb2)
    go_wp2_with (go_at_call 28; (refine (specWorkOf_c B n n z f u _ _ _ _ hz hn _ hR2).mono ?_); rintro e w3 ⟨rfl, hb3⟩; have tb3 := tb2.below hb3; have a30 := tb3.c0; have a31 := tb3.c1; have a32 := tb3.c2; have hr3 := hr2.below hb3)
    go_wp2_with (go_at_call 15; (refine (toTrack_c A n c z f u hz hn _ hr3).mono ?_); rintro e w4 ⟨D, rfl, hR4, hb4⟩; have tb4 := (tb3.below hb4).alloc (.cells #[.slice D n n, .int .i64 f, .int .i64 u] 30); have hr4 := (hr3.below hb4).alloc (.cells #[.slice D n n, .int .i64 f, .int .i64 u] 30); have td4 := TrackBox.new w4 30 D n n f u; have hR4' := hR4.alloc (.cells #[.slice D n n, .int .i64 f, .int .i64 u] 30))
    go_wp2_with (go_at_call 29; (refine (implWorkOf_c D n n z f u _ _ _ _ hz hn _ hR4').mono ?_); rintro e w5 ⟨rfl, hb5⟩; have tb5 := tb4.below hb5; have td5 := td4.below hb5; have hr5 := hr4.below hb5; have hR5 := hR4'.below hb5)
    have s0 := tb5.c0
    have s1 := tb5.c1
    have s2 := tb5.c2
    have s3 := tb5.lt
    have d0 := td5.c0
    have d1 := td5.c1
    have d2 := td5.c2
    have d3 := td5.lt
    have z1 : w.heap.size ≤ w1.heap.size := by have := hb1.size; simp only [World.size_alloc] at this; omega
    have z2 : w1.heap.size ≤ w2.heap.size := hb2.size
    have z3 : w2.heap.size ≤ w3.heap.size := hb3.size
    have z4 : w3.heap.size ≤ w4.heap.size := hb4.size
    have z5 : w4.heap.size ≤ w5.heap.size := by have := hb5.size; simp only [World.size_alloc] at this; omega
    have hB5 : Below w.heap.size w w5 := by
      repeat' (first
        | (with_reducible exact Below.refl _ _)
        | (with_reducible assumption)
        | (with_reducible refine Below.alloc ?_ ?_ _)
        | (with_reducible refine Below.drew ?_)
        | (with_reducible refine bdrewN ?_ _)
        | (with_reducible refine Below.setCell ?_ ?_ _)
        | (with_reducible refine bthen (by assumption) ?_ ?_)
        | go_size)
    clear tb0 tb1 tb2 tb3 tb4 tb5 td4 td5 hb1 hb2 hb3 hb4 hb5 a10 a11 a12 a20 a21 a22 a30 a31 a32 hr0 hr1 hr2 hr3 hr4 hR2 hR4 hR4'
    go_wp2
    first
      | go_region_held3 (fun w' => w'.cell? ⟨w.heap.size, 0, none⟩ = some (.slice A n c) ∧ w'.cell? ⟨w.heap.size, 1, none⟩ = some (.int .i64 f) ∧ w'.cell? ⟨w.heap.size, 2, none⟩ = some (.int .i64 u) ∧ w'.cell? ⟨w4.heap.size, 0, none⟩ = some (.slice D n n) ∧ w'.cell? ⟨w4.heap.size, 1, none⟩ = some (.int .i64 f) ∧ w'.cell? ⟨w4.heap.size, 2, none⟩ = some (.int .i64 u) ∧ w.heap.size < w'.heap.size ∧ w4.heap.size < w'.heap.size ∧ RowI w' A z ∧ RowI w' D z) (((try dsimp only at *); (try go_split_ands); (repeat' apply And.intro) <;> first | (with_reducible assumption) | (rw [qc _ _ (by with_reducible assumption)]; with_reducible assumption) | (with_reducible exact qz _ (by with_reducible assumption)) | (with_reducible exact RowI.below (by with_reducible assumption) (by with_reducible assumption)) | (simp [*, go_sem]; done) | omega | (refine RowI.drew ?_; simp [*]; done) | ((repeat (first | (with_reducible assumption) | (with_reducible refine RowI.drew ?_) | (with_reducible refine RowI.drewN ?_ _) | (with_reducible refine RowI.alloc ?_ _) | (with_reducible refine RowI.below ?_ (by with_reducible assumption)))); done) | (refine RowI.below ?_ (by assumption); first | (simp [*]; done) | (refine RowI.drew ?_; simp [*]; done))))
        (first
          | (go_at_call 15; (apply Calls.mono; focus ((with_reducible apply (toTrack_c A n c z f u hz hn)); (all_goals (first | (with_reducible assumption) | (simp [*]; done))); done)); rintro e w' ⟨B', rfl, hR', hb⟩; obtain ⟨qc, qf, qz, qs⟩ := bfacts hb; (try simp only [World.size_alloc, World.size_setCell, World.size_drew, World.heap_drewN] at qs))
          | (go_at_call 17; (apply Calls.mono; focus ((with_reducible apply (eqTrack_c _ _ n _ _ z f u hz hn)); (all_goals (first | (with_reducible assumption) | (simp [*]; done))); done)); rintro e w' ⟨rfl, hb⟩; obtain ⟨qc, qf, qz, qs⟩ := bfacts hb; (try simp only [World.size_alloc, World.size_setCell, World.size_drew, World.heap_drewN] at qs)))
      | fail
    go_wp2
    go_returns
    refine ⟨by simp, ?_⟩
    repeat' (first
      | (with_reducible exact Below.refl _ _)
      | (with_reducible assumption)
      | (with_reducible refine Below.alloc ?_ ?_ _)
      | (with_reducible refine Below.drew ?_)
      | (with_reducible refine bdrewN ?_ _)
      | (with_reducible refine Below.setCell ?_ ?_ _)
      | (with_reducible refine bthen (by assumption) ?_ ?_)
      | go_size)
  · rw [if_neg hn] at HSZ
    go_enter Try.func9, Try.ntmps9
    go_wp2_with (go_at_call 13; (refine (HSZ.out _).mono ?_); rintro e w1 ⟨rfl, hb1⟩)
    go_returns
    refine ⟨by simp, ?_⟩
    repeat' (first
      | (with_reducible exact Below.refl _ _)
      | (with_reducible assumption)
      | (with_reducible refine Below.alloc ?_ ?_ _)
      | (with_reducible refine Below.drew ?_)
      | (with_reducible refine bdrewN ?_ _)
      | (with_reducible refine Below.setCell ?_ ?_ _)
      | (with_reducible refine bthen (by assumption) ?_ ?_)
      | go_size)
end Go.Proofs.Ytmkfkpfblnblgaa
