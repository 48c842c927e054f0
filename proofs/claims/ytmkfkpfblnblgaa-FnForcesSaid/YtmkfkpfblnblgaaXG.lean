/- The mass that balances. -/
import Derived.Test.YtmkfkpfblnblgaaXB
namespace Go.Proofs.Ytmkfkpfblnblgaa
open Go.ChangeShapes Go.WideShapes Go.ChangeAt Go.RowKit
set_option linter.unusedVariables false
set_option linter.unusedSimpArgs false

/-- What impl.least hands back where its function makes memory. -/
def LeastPostB (p : Int → Bool) (lo hi : Int) (w : World) (e : Ending) (w' : World) : Prop := ∃ r : Int, e = .returned (.int .i64 r) ∧ LeastAt p lo hi r ∧ Below w.heap.size w w'
set_option maxHeartbeats 2000000 in
theorem leastBal_c (A : Option Addr) (n c : Nat) (z : List Int) (f u x o r : Int) (bt b1 b2 b3 : Nat) (hz : z.length = n * 2) (n0 : 1 ≤ n) (n1 : n ≤ 12) (hs : secsB z n = true) (hl : lenTo z n ≤ 3000000) (x0 : 0 ≤ x) (x1 : x ≤ lenTo z n) (o0 : 0 ≤ o) (o1 : o ≤ 100000) (r0 : 0 ≤ r) (r1 : r ≤ 20000) (w : World) (hrow : RowI w A z) (ht : TrackBox bt A n c f u w) (l1 : b1 < w.heap.size) (l2 : b2 < w.heap.size) (l3 : b3 < w.heap.size) (h1 : w.cell? ⟨b1, 0, none⟩ = some (.int .i64 x)) (h2 : w.cell? ⟨b2, 0, none⟩ = some (.int .i64 o)) (h3 : w.cell? ⟨b3, 0, none⟩ = some (.int .i64 r)) : Calls Try.prog 62 #[.int .i64 0, .int .i64 100000, .func (.func 63) #[] #[.pointer (some ⟨bt, 0, none⟩), .pointer (some ⟨b1, 0, none⟩), .pointer (some ⟨b2, 0, none⟩), .pointer (some ⟨b3, 0, none⟩)]] w (LeastPostB (balB z n x o r) 0 100000 w) := by
  have HMO := Lib.hid (show ∀ v v', v ≤ v' → balB z n x o r v = true → balB z n x o r v' = true from fun v v' h k => balB_mono hs n0 h k)
  have HCL := Lib.hid (fun k k0 k1 w' hr ht h1 h2 h3 => BK1_c A n c z f u x k o r bt b1 b2 b3 hz n0 n1 hs hl x0 x1 k0 k1 o0 o1 r0 r1 w' hr ht h1 h2 h3)
  go_enter Try.func62, Try.ntmps62
  go_wp2
  go_loopw [0, 7] (fun p' q wr => ∃ a b : Int, 0 ≤ a ∧ a ≤ b ∧ b ≤ 100001 ∧ Hid (∀ v, 0 ≤ v → v < a → balB z n x o r v = false) ∧ Hid (b ≤ 100000 → balB z n x o r b = true) ∧ p' = .int .i64 a ∧ q = .int .i64 b ∧ Below w.heap.size w wr) (fun p' q _ => (intOf q - intOf p').toNat)
  case atStart => exact ⟨0, 100001, by omega, by omega, by omega, Lib.hid (fun v _ _ => by omega), Lib.hid (fun _ => by omega), rfl, rfl, Below.refl _ _⟩
  case round =>
    obtain ⟨a, b, ha, hab, hb, HA, HB, rfl, rfl, hBr⟩ := hrel
    have hrr := hrow.below hBr
    have htr := ht.below hBr
    have g1 := (hBr.cell (p := ⟨b1, 0, none⟩) l1).trans h1
    have g2 := (hBr.cell (p := ⟨b2, 0, none⟩) l2).trans h2
    have g3 := (hBr.cell (p := ⟨b3, 0, none⟩) l3).trans h3
    have hsr := hBr.size
    by_cases hlt : a < b
    · have m0 : 0 ≤ (a + b) / 2 := by omega
      have m1 : (a + b) / 2 ≤ 100000 := by omega
      have m2 : a ≤ (a + b) / 2 := by omega
      have m3 : (a + b) / 2 < b := by omega
      cases hm : balB z n x o r ((a + b) / 2)
      · go_wp2_with (go_at_call 63; (refine (HCL.out _ m0 m1 _ hrr htr g1 g2 g3).mono ?_); rintro e w' ⟨rfl, hb'⟩)
        go_roundw
        case rel => exact ⟨(a + b) / 2 + 1, b, by omega, by omega, by omega, Lib.hid (fun v hv1 hv2 => Bool.eq_false_iff.2 (fun hv => by have := HMO.out v ((a + b) / 2) (by omega) hv; rw [hm] at this; cases this)), HB, rfl, rfl, hBr.trans (hb'.mono hsr)⟩
        case measure => simp [intOf]; omega
      · go_wp2_with (go_at_call 63; (refine (HCL.out _ m0 m1 _ hrr htr g1 g2 g3).mono ?_); rintro e w' ⟨rfl, hb'⟩)
        go_roundw
        case rel => exact ⟨a, (a + b) / 2, by omega, by omega, by omega, HA, Lib.hid (fun _ => hm), rfl, rfl, hBr.trans (hb'.mono hsr)⟩
        case measure => simp [intOf]; omega
    · obtain rfl : a = b := by omega
      go_wp2
      go_ret
      exact ⟨a, rfl, ⟨ha, by omega, fun v hv1 hv2 => HA.out v hv1 hv2, fun h => HB.out h⟩, hBr⟩
def fBalanceKilos (z : List Int) (n : Nat) (f u x o r : Int) : Int × Int := if codeT z n f u x (inB o 0 100000 && inB r 0 20000) = 0 then ((fBal z n x o r).1, (fBal z n x o r).2) else (0, codeT z n f u x (inB o 0 100000 && inB r 0 20000))
set_option maxHeartbeats 4000000 in
theorem implBalanceKilos_c (A : Option Addr) (n c : Nat) (z : List Int) (f u x o r : Int) (hz : z.length = n * 2) (hn : n ≤ 1048576) (w : World) (hrow : RowI w A z) : Calls Try.prog 31 #[.agg #[.slice A n c, .int .i64 f, .int .i64 u], .int .i64 x, .int .i64 o, .int .i64 r] w fun e w' => e = .returned (.tuple #[.int .i64 (fBalanceKilos z n f u x o r).1, .int .i64 (fBalanceKilos z n f u x o r).2]) ∧ Below w.heap.size w w' := by
  cases ho : inB o 0 100000
  ·
    have hm : (inB o 0 100000 && inB r 0 20000) = false := by simp [ho]
    obtain ⟨code, hcode⟩ : ∃ code, codeT z n f u x false = code := ⟨_, rfl⟩
    have hne : code ≠ 0 := by rw [← hcode]; exact codeT_false
    have hne2 : (code != 0) = true := by simpa using hne
    have HG := Lib.hid (show fBalanceKilos z n f u x o r = (0, code) by unfold fBalanceKilos; rw [hm, hcode, if_neg hne])
    rw [HG.out]
    go_enter Try.func31, Try.ntmps31
    go_wp2
    refine wp_region_held_drew (S := fun w' => w'.cell? ⟨w.heap.size, 0, none⟩ = some (.slice (A) n c) ∧ w'.cell? ⟨w.heap.size, 1, none⟩ = some (.int .i64 (f)) ∧ w'.cell? ⟨w.heap.size, 2, none⟩ = some (.int .i64 (u)) ∧ w.heap.size < w'.heap.size ∧ RowI w' (A) z ∧ w'.cell? ⟨w.heap.size + 1, 0, none⟩ = some (.int .i64 x) ∧ w.heap.size + 1 < w'.heap.size ∧ w'.cell? ⟨w.heap.size + 1 + 1, 0, none⟩ = some (.int .i64 o) ∧ w.heap.size + 1 + 1 < w'.heap.size ∧ w'.cell? ⟨w.heap.size + 1 + 1 + 1, 0, none⟩ = some (.int .i64 r) ∧ w.heap.size + 1 + 1 + 1 < w'.heap.size) (by kernel_rfl) ?_ (fun hHeld => ?_)
    · (((try dsimp only at *); (try go_split_ands); (repeat' apply And.intro) <;> first | (with_reducible assumption) | (rw [qc _ _ (by with_reducible assumption)]; with_reducible assumption) | (with_reducible exact qz _ (by with_reducible assumption)) | (with_reducible exact RowI.below (by with_reducible assumption) (by with_reducible assumption)) | (simp [*, go_sem]; done) | omega | (refine RowI.drew ?_; simp [*]; done) | ((repeat (first | (with_reducible assumption) | (with_reducible refine RowI.drew ?_) | (with_reducible refine RowI.drewN ?_ _) | (with_reducible refine RowI.alloc ?_ _) | (with_reducible refine RowI.below ?_ (by with_reducible assumption)))); done) | (refine RowI.below ?_ (by assumption); first | (simp [*]; done) | (refine RowI.drew ?_; simp [*]; done))))
    refine wpAnyH_take (i := 0) (v := ?_) rfl (by kernel_rfl) (by kernel_rfl) (by kernel_rfl) (fun _ _ _ h => h) (Or.inl ⟨by rfl, ?_⟩) (by assumption) ?_
    rotate_left
    · (intro w hSw; (try dsimp only at hSw); go_simp; (try with_reducible rfl))
    (try simp only [Act.put, List.getElem_toArray, List.getElem_cons_zero, List.getElem_cons_succ, List.setIfInBounds_toArray, List.set_cons_zero, List.set_cons_succ])
    refine wpAnyH_take (i := 1) (v := ?_) rfl (by kernel_rfl) (by kernel_rfl) (by kernel_rfl) (fun _ _ _ h => h) (Or.inl ⟨by rfl, ?_⟩) (by assumption) ?_
    rotate_left
    · (intro w hSw; (try dsimp only at hSw); go_simp; (try with_reducible rfl))
    (try simp only [Act.put, List.getElem_toArray, List.getElem_cons_zero, List.getElem_cons_succ, List.setIfInBounds_toArray, List.set_cons_zero, List.set_cons_succ])
    refine wpAnyH_take (i := 2) (v := ?_) rfl (by kernel_rfl) (by kernel_rfl) (by kernel_rfl) (fun _ _ _ h => h) (Or.inl ⟨by rfl, ?_⟩) (by assumption) ?_
    rotate_left
    · (intro w hSw; (try dsimp only at hSw); go_simp; (try with_reducible rfl))
    (try simp only [Act.put, List.getElem_toArray, List.getElem_cons_zero, List.getElem_cons_succ, List.setIfInBounds_toArray, List.set_cons_zero, List.set_cons_succ])
    refine wpAnyH_ready (rs := [3]) (by kernel_rfl) (by simp) ?_
    refine AllReadyH.cons rfl (fun K hK => ?_) AllReadyH.nil
    go_simp
    (first
      | (go_at_call 44; (apply Calls.mono; focus ((with_reducible apply (isKilos_v ho)); (all_goals (first | (with_reducible assumption) | omega | ((repeat (first | (with_reducible assumption) | (with_reducible refine RowI.drewN ?_ _) | (with_reducible refine RowI.drew ?_) | (with_reducible refine RowI.alloc ?_ _) | (with_reducible refine RowI.below ?_ (by with_reducible assumption)))); done) | assumption | (simp; done) | (simp [*]; done))); done)); rintro e w' ⟨rfl, rfl⟩)
      | (go_at_call 43; (apply Calls.mono; focus ((with_reducible apply (loaded_v hcode hz hn)); (all_goals (first | (with_reducible assumption) | omega | ((repeat (first | (with_reducible assumption) | (with_reducible refine RowI.drewN ?_ _) | (with_reducible refine RowI.drew ?_) | (with_reducible refine RowI.alloc ?_ _) | (with_reducible refine RowI.below ?_ (by with_reducible assumption)))); done) | assumption | (simp; done) | (simp [*]; done))); done)); rintro e w' ⟨rfl, hb⟩; obtain ⟨qc, qf, qz, qs⟩ := bfacts hb; (try simp only [World.size_alloc, World.size_setCell, World.size_drew, World.heap_drewN] at qs)))
    (try go_wp2_with fail)
    refine hK.out _ _ ?_ (fun hHeld => ?_)
    · (((try dsimp only at *); (try go_split_ands); (repeat' apply And.intro) <;> first | (with_reducible assumption) | (rw [qc _ _ (by with_reducible assumption)]; with_reducible assumption) | (with_reducible exact qz _ (by with_reducible assumption)) | (with_reducible exact RowI.below (by with_reducible assumption) (by with_reducible assumption)) | (simp [*, go_sem]; done) | omega | (refine RowI.drew ?_; simp [*]; done) | ((repeat (first | (with_reducible assumption) | (with_reducible refine RowI.drew ?_) | (with_reducible refine RowI.drewN ?_ _) | (with_reducible refine RowI.alloc ?_ _) | (with_reducible refine RowI.below ?_ (by with_reducible assumption)))); done) | (refine RowI.below ?_ (by assumption); first | (simp [*]; done) | (refine RowI.drew ?_; simp [*]; done))))
    clear hK K
    (try simp only [Act.put, List.getElem_toArray, List.getElem_cons_zero, List.getElem_cons_succ, List.setIfInBounds_toArray, List.set_cons_zero, List.set_cons_succ])
    refine wpAnyH_take (i := 4) (v := ?_) rfl (by kernel_rfl) (by kernel_rfl) (by kernel_rfl) (fun _ _ _ h => h) (Or.inl ⟨by rfl, ?_⟩) (by assumption) ?_
    rotate_left
    · (intro w hSw; (try dsimp only at hSw); go_simp; (try with_reducible rfl))
    (try simp only [Act.put, List.getElem_toArray, List.getElem_cons_zero, List.getElem_cons_succ, List.setIfInBounds_toArray, List.set_cons_zero, List.set_cons_succ])
    refine wpAnyH_take (i := 5) (v := undef) rfl (by kernel_rfl) (by kernel_rfl) (by kernel_rfl) (fun _ _ _ h => h) (Or.inr ⟨by first | kernel_rfl | rfl, rfl⟩) (by assumption) ?_
    (try simp only [Act.put, List.getElem_toArray, List.getElem_cons_zero, List.getElem_cons_succ, List.setIfInBounds_toArray, List.set_cons_zero, List.set_cons_succ])
    refine wpAnyH_take (i := 6) (v := undef) rfl (by kernel_rfl) (by kernel_rfl) (by kernel_rfl) (fun _ _ _ h => h) (Or.inr ⟨by first | kernel_rfl | rfl, rfl⟩) (by assumption) ?_
    (try simp only [Act.put, List.getElem_toArray, List.getElem_cons_zero, List.getElem_cons_succ, List.setIfInBounds_toArray, List.set_cons_zero, List.set_cons_succ])
    refine wpAnyH_take (i := 7) (v := ?_) rfl (by kernel_rfl) (by kernel_rfl) (by kernel_rfl) (fun _ _ _ h => h) (Or.inl ⟨by rfl, ?_⟩) (by assumption) ?_
    rotate_left
    · (intro w hSw; (try dsimp only at hSw); go_simp; (try with_reducible rfl))
    (try simp only [Act.put, List.getElem_toArray, List.getElem_cons_zero, List.getElem_cons_succ, List.setIfInBounds_toArray, List.set_cons_zero, List.set_cons_succ])
    refine wpAnyH_ready (rs := [8]) (by kernel_rfl) (by simp) ?_
    refine AllReadyH.cons rfl (fun K hK => ?_) AllReadyH.nil
    go_simp
    (first
      | (go_at_call 44; (apply Calls.mono; focus ((with_reducible apply (isKilos_v ho)); (all_goals (first | (with_reducible assumption) | omega | ((repeat (first | (with_reducible assumption) | (with_reducible refine RowI.drewN ?_ _) | (with_reducible refine RowI.drew ?_) | (with_reducible refine RowI.alloc ?_ _) | (with_reducible refine RowI.below ?_ (by with_reducible assumption)))); done) | assumption | (simp; done) | (simp [*]; done))); done)); rintro e w' ⟨rfl, rfl⟩)
      | (go_at_call 43; (apply Calls.mono; focus ((with_reducible apply (loaded_v hcode hz hn)); (all_goals (first | (with_reducible assumption) | omega | ((repeat (first | (with_reducible assumption) | (with_reducible refine RowI.drewN ?_ _) | (with_reducible refine RowI.drew ?_) | (with_reducible refine RowI.alloc ?_ _) | (with_reducible refine RowI.below ?_ (by with_reducible assumption)))); done) | assumption | (simp; done) | (simp [*]; done))); done)); rintro e w' ⟨rfl, hb⟩; obtain ⟨qc, qf, qz, qs⟩ := bfacts hb; (try simp only [World.size_alloc, World.size_setCell, World.size_drew, World.heap_drewN] at qs)))
    (try go_wp2_with fail)
    refine hK.out _ _ ?_ (fun hHeld => ?_)
    · (((try dsimp only at *); (try go_split_ands); (repeat' apply And.intro) <;> first | (with_reducible assumption) | (rw [qc _ _ (by with_reducible assumption)]; with_reducible assumption) | (with_reducible exact qz _ (by with_reducible assumption)) | (with_reducible exact RowI.below (by with_reducible assumption) (by with_reducible assumption)) | (simp [*, go_sem]; done) | omega | (refine RowI.drew ?_; simp [*]; done) | ((repeat (first | (with_reducible assumption) | (with_reducible refine RowI.drew ?_) | (with_reducible refine RowI.drewN ?_ _) | (with_reducible refine RowI.alloc ?_ _) | (with_reducible refine RowI.below ?_ (by with_reducible assumption)))); done) | (refine RowI.below ?_ (by assumption); first | (simp [*]; done) | (refine RowI.drew ?_; simp [*]; done))))
    clear hK K
    (try simp only [Act.put, List.getElem_toArray, List.getElem_cons_zero, List.getElem_cons_succ, List.setIfInBounds_toArray, List.set_cons_zero, List.set_cons_succ])
    refine wpAnyH_take (i := 9) (v := ?_) rfl (by kernel_rfl) (by kernel_rfl) (by kernel_rfl) (fun _ _ _ h => h) (Or.inl ⟨by rfl, ?_⟩) (by assumption) ?_
    rotate_left
    · (intro w hSw; (try dsimp only at hSw); go_simp; (try with_reducible rfl))
    (try simp only [Act.put, List.getElem_toArray, List.getElem_cons_zero, List.getElem_cons_succ, List.setIfInBounds_toArray, List.set_cons_zero, List.set_cons_succ])
    refine wpAnyH_done (by kernel_rfl) ?_ _
    go_wp2
    go_returns
    refine ⟨rfl, ?_⟩
    repeat' (first
      | (with_reducible exact Below.refl _ _)
      | (with_reducible assumption)
      | (with_reducible refine Below.alloc ?_ ?_ _)
      | (with_reducible refine Below.drew ?_)
      | (with_reducible refine bdrewN ?_ _)
      | (with_reducible refine Below.setCell ?_ ?_ _)
      | (with_reducible refine bthen (by assumption) ?_ ?_)
      | go_size)
  ·
    cases hr : inB r 0 20000
    ·
      have hm : (inB o 0 100000 && inB r 0 20000) = false := by simp [ho, hr]
      obtain ⟨code, hcode⟩ : ∃ code, codeT z n f u x false = code := ⟨_, rfl⟩
      have hne : code ≠ 0 := by rw [← hcode]; exact codeT_false
      have hne2 : (code != 0) = true := by simpa using hne
      have HG := Lib.hid (show fBalanceKilos z n f u x o r = (0, code) by unfold fBalanceKilos; rw [hm, hcode, if_neg hne])
      rw [HG.out]
      go_enter Try.func31, Try.ntmps31
      go_wp2
      first
        | go_region_held3 (fun w' => w'.cell? ⟨w.heap.size, 0, none⟩ = some (.slice (A) n c) ∧ w'.cell? ⟨w.heap.size, 1, none⟩ = some (.int .i64 (f)) ∧ w'.cell? ⟨w.heap.size, 2, none⟩ = some (.int .i64 (u)) ∧ w.heap.size < w'.heap.size ∧ RowI w' (A) z ∧ w'.cell? ⟨w.heap.size + 1, 0, none⟩ = some (.int .i64 x) ∧ w.heap.size + 1 < w'.heap.size ∧ w'.cell? ⟨w.heap.size + 1 + 1, 0, none⟩ = some (.int .i64 o) ∧ w.heap.size + 1 + 1 < w'.heap.size ∧ w'.cell? ⟨w.heap.size + 1 + 1 + 1, 0, none⟩ = some (.int .i64 r) ∧ w.heap.size + 1 + 1 + 1 < w'.heap.size) (((try dsimp only at *); (try go_split_ands); (repeat' apply And.intro) <;> first | (with_reducible assumption) | (rw [qc _ _ (by with_reducible assumption)]; with_reducible assumption) | (with_reducible exact qz _ (by with_reducible assumption)) | (with_reducible exact RowI.below (by with_reducible assumption) (by with_reducible assumption)) | (simp [*, go_sem]; done) | omega | (refine RowI.drew ?_; simp [*]; done) | ((repeat (first | (with_reducible assumption) | (with_reducible refine RowI.drew ?_) | (with_reducible refine RowI.drewN ?_ _) | (with_reducible refine RowI.alloc ?_ _) | (with_reducible refine RowI.below ?_ (by with_reducible assumption)))); done) | (refine RowI.below ?_ (by assumption); first | (simp [*]; done) | (refine RowI.drew ?_; simp [*]; done))))
            (first
              | (go_at_call 44; (apply Calls.mono; focus ((with_reducible apply (isKilos_v ho)); (all_goals (first | (with_reducible assumption) | omega | ((repeat (first | (with_reducible assumption) | (with_reducible refine RowI.drewN ?_ _) | (with_reducible refine RowI.drew ?_) | (with_reducible refine RowI.alloc ?_ _) | (with_reducible refine RowI.below ?_ (by with_reducible assumption)))); done) | assumption | (simp; done) | (simp [*]; done))); done)); rintro e w' ⟨rfl, rfl⟩)
              | (go_at_call 48; (apply Calls.mono; focus ((with_reducible apply (isRopeMass_v hr)); (all_goals (first | (with_reducible assumption) | omega | ((repeat (first | (with_reducible assumption) | (with_reducible refine RowI.drewN ?_ _) | (with_reducible refine RowI.drew ?_) | (with_reducible refine RowI.alloc ?_ _) | (with_reducible refine RowI.below ?_ (by with_reducible assumption)))); done) | assumption | (simp; done) | (simp [*]; done))); done)); rintro e w' ⟨rfl, rfl⟩)
              | (go_at_call 43; (apply Calls.mono; focus ((with_reducible apply (loaded_v hcode hz hn)); (all_goals (first | (with_reducible assumption) | omega | ((repeat (first | (with_reducible assumption) | (with_reducible refine RowI.drewN ?_ _) | (with_reducible refine RowI.drew ?_) | (with_reducible refine RowI.alloc ?_ _) | (with_reducible refine RowI.below ?_ (by with_reducible assumption)))); done) | assumption | (simp; done) | (simp [*]; done))); done)); rintro e w' ⟨rfl, hb⟩; obtain ⟨qc, qf, qz, qs⟩ := bfacts hb; (try simp only [World.size_alloc, World.size_setCell, World.size_drew, World.heap_drewN] at qs)))
        | fail
      go_wp2
      go_returns
      refine ⟨rfl, ?_⟩
      repeat' (first
        | (with_reducible exact Below.refl _ _)
        | (with_reducible assumption)
        | (with_reducible refine Below.alloc ?_ ?_ _)
        | (with_reducible refine Below.drew ?_)
        | (with_reducible refine bdrewN ?_ _)
        | (with_reducible refine Below.setCell ?_ ?_ _)
        | (with_reducible refine bthen (by assumption) ?_ ?_)
        | go_size)
    ·
      have hm : (inB o 0 100000 && inB r 0 20000) = true := by simp [ho, hr]
      obtain ⟨code, hcode⟩ : ∃ code, codeT z n f u x true = code := ⟨_, rfl⟩
      by_cases hz0 : code = 0
      ·
        subst hz0
        have HG := Lib.hid (show fBalanceKilos z n f u x o r = ((fBal z n x o r).1, (fBal z n x o r).2) by unfold fBalanceKilos; rw [hm, hcode, if_pos rfl])
        rw [HG.out]
        clear HG hm
        obtain ⟨ht, hx, _⟩ := codeT_zero hcode
        obtain ⟨⟨n0, n1⟩, hs, ⟨L0, L1⟩, _⟩ := trackB_true ht
        obtain ⟨x0, x1⟩ := inB_true hx
        obtain ⟨o0, o1⟩ := inB_true ho
        obtain ⟨r0, r1⟩ := inB_true hr
        go_enter Try.func31, Try.ntmps31
        go_wp2
        first
          | go_region_held3 (fun w' => w'.cell? ⟨w.heap.size, 0, none⟩ = some (.slice (A) n c) ∧ w'.cell? ⟨w.heap.size, 1, none⟩ = some (.int .i64 (f)) ∧ w'.cell? ⟨w.heap.size, 2, none⟩ = some (.int .i64 (u)) ∧ w.heap.size < w'.heap.size ∧ RowI w' (A) z ∧ w'.cell? ⟨w.heap.size + 1, 0, none⟩ = some (.int .i64 x) ∧ w.heap.size + 1 < w'.heap.size ∧ w'.cell? ⟨w.heap.size + 1 + 1, 0, none⟩ = some (.int .i64 o) ∧ w.heap.size + 1 + 1 < w'.heap.size ∧ w'.cell? ⟨w.heap.size + 1 + 1 + 1, 0, none⟩ = some (.int .i64 r) ∧ w.heap.size + 1 + 1 + 1 < w'.heap.size) (((try dsimp only at *); (try go_split_ands); (repeat' apply And.intro) <;> first | (with_reducible assumption) | (rw [qc _ _ (by with_reducible assumption)]; with_reducible assumption) | (with_reducible exact qz _ (by with_reducible assumption)) | (with_reducible exact RowI.below (by with_reducible assumption) (by with_reducible assumption)) | (simp [*, go_sem]; done) | omega | (refine RowI.drew ?_; simp [*]; done) | ((repeat (first | (with_reducible assumption) | (with_reducible refine RowI.drew ?_) | (with_reducible refine RowI.drewN ?_ _) | (with_reducible refine RowI.alloc ?_ _) | (with_reducible refine RowI.below ?_ (by with_reducible assumption)))); done) | (refine RowI.below ?_ (by assumption); first | (simp [*]; done) | (refine RowI.drew ?_; simp [*]; done))))
              (first
                | (go_at_call 44; (apply Calls.mono; focus ((with_reducible apply (isKilos_v ho)); (all_goals (first | (with_reducible assumption) | omega | ((repeat (first | (with_reducible assumption) | (with_reducible refine RowI.drewN ?_ _) | (with_reducible refine RowI.drew ?_) | (with_reducible refine RowI.alloc ?_ _) | (with_reducible refine RowI.below ?_ (by with_reducible assumption)))); done) | assumption | (simp; done) | (simp [*]; done))); done)); rintro e w' ⟨rfl, rfl⟩)
                | (go_at_call 48; (apply Calls.mono; focus ((with_reducible apply (isRopeMass_v hr)); (all_goals (first | (with_reducible assumption) | omega | ((repeat (first | (with_reducible assumption) | (with_reducible refine RowI.drewN ?_ _) | (with_reducible refine RowI.drew ?_) | (with_reducible refine RowI.alloc ?_ _) | (with_reducible refine RowI.below ?_ (by with_reducible assumption)))); done) | assumption | (simp; done) | (simp [*]; done))); done)); rintro e w' ⟨rfl, rfl⟩)
                | (go_at_call 43; (apply Calls.mono; focus ((with_reducible apply (loaded_v hcode hz hn)); (all_goals (first | (with_reducible assumption) | omega | ((repeat (first | (with_reducible assumption) | (with_reducible refine RowI.drewN ?_ _) | (with_reducible refine RowI.drew ?_) | (with_reducible refine RowI.alloc ?_ _) | (with_reducible refine RowI.below ?_ (by with_reducible assumption)))); done) | assumption | (simp; done) | (simp [*]; done))); done)); rintro e w' ⟨rfl, hb⟩; obtain ⟨qc, qf, qz, qs⟩ := bfacts hb; (try simp only [World.size_alloc, World.size_setCell, World.size_drew, World.heap_drewN] at qs)))
          | fail
        (try go_split_ands)
        have t0 : w'.cell? ⟨w.heap.size, 0, none⟩ = some (.slice A n c) := by first | assumption | simp [*]
        have t1 : w'.cell? ⟨w.heap.size, 1, none⟩ = some (.int .i64 f) := by first | assumption | simp [*]
        have t2 : w'.cell? ⟨w.heap.size, 2, none⟩ = some (.int .i64 u) := by first | assumption | simp [*]
        have t3 : w.heap.size < w'.heap.size := by first | assumption | omega
        have hBw : Below w.heap.size w w' := by
          repeat' (first
            | (with_reducible exact Below.refl _ _)
            | (with_reducible assumption)
            | (with_reducible refine Below.alloc ?_ ?_ _)
            | (with_reducible refine Below.drew ?_)
            | (with_reducible refine bdrewN ?_ _)
            | (with_reducible refine Below.setCell ?_ ?_ _)
            | (with_reducible refine bthen (by assumption) ?_ ?_)
            | go_size)
        have hrw : RowI w' A z := by first | assumption | exact hrow.below hBw
        have HTB := Lib.hid (show TrackBox w.heap.size A n c f u w' from ⟨t0, t1, t2, t3⟩)
        have HLE := Lib.hid (fun w' hr => length_c A n c z f u hz n1 hs w' hr)
        have HR := Lib.hid hrow
        have c1 : w'.cell? ⟨w.heap.size + 1, 0, none⟩ = some (.int .i64 x) := by first | assumption | simp [*]
        have l1 : w.heap.size + 1 < w'.heap.size := by first | assumption | omega
        have c2 : w'.cell? ⟨w.heap.size + 1 + 1, 0, none⟩ = some (.int .i64 o) := by first | assumption | simp [*]
        have l2 : w.heap.size + 1 + 1 < w'.heap.size := by first | assumption | omega
        have c3 : w'.cell? ⟨w.heap.size + 1 + 1 + 1, 0, none⟩ = some (.int .i64 r) := by first | assumption | simp [*]
        have l3 : w.heap.size + 1 + 1 + 1 < w'.heap.size := by first | assumption | omega
        have HLB := Lib.hid (leastBal_c A n c z f u x o r w.heap.size (w.heap.size + 1) (w.heap.size + 1 + 1) (w.heap.size + 1 + 1 + 1) hz n0 n1 hs L1 x0 x1 o0 o1 r0 r1 w' hrw HTB.out l1 l2 l3 c1 c2 c3)
        have HU := Lib.hid (show ∀ q, LeastAt (balB z n x o r) 0 100000 q → q = balI z n x o r from fun q hq => leastAt_unique hq (balI_at z n x o r))
        have hbl := balI_at z n x o r
        have hb0 := hbl.1
        have hb1 := hbl.2.1
        clear hbl
        by_cases hbig : 100000 < balI z n x o r
        ·
          have HF := Lib.hid (show fBal z n x o r = (0, 3) by rw [fBal, if_pos hbig])
          go_wp2_with (go_at_call 62; (refine HLB.out.mono ?_); rintro e w1 ⟨q, rfl, hq, hb1⟩; obtain rfl := HU.out q hq; clear hq)
          go_returns
          refine ⟨by (rw [HF.out]) <;> rfl, ?_⟩
          repeat' (first
            | (with_reducible exact Below.refl _ _)
            | (with_reducible assumption)
            | (with_reducible refine Below.alloc ?_ ?_ _)
            | (with_reducible refine Below.drew ?_)
            | (with_reducible refine bdrewN ?_ _)
            | (with_reducible refine Below.setCell ?_ ?_ _)
            | (with_reducible refine bthen (by assumption) ?_ ?_)
            | go_size)
        ·
          have HF := Lib.hid (show fBal z n x o r = (balI z n x o r, 0) by rw [fBal, if_neg hbig])
          go_wp2_with (go_at_call 62; (refine HLB.out.mono ?_); rintro e w1 ⟨q, rfl, hq, hb1⟩; obtain rfl := HU.out q hq; clear hq)
          go_returns
          refine ⟨by (rw [HF.out]) <;> rfl, ?_⟩
          repeat' (first
            | (with_reducible exact Below.refl _ _)
            | (with_reducible assumption)
            | (with_reducible refine Below.alloc ?_ ?_ _)
            | (with_reducible refine Below.drew ?_)
            | (with_reducible refine bdrewN ?_ _)
            | (with_reducible refine Below.setCell ?_ ?_ _)
            | (with_reducible refine bthen (by assumption) ?_ ?_)
            | go_size)
      ·
        have hne2 : (code != 0) = true := by simpa using hz0
        have HG := Lib.hid (show fBalanceKilos z n f u x o r = (0, code) by unfold fBalanceKilos; rw [hm, hcode, if_neg hz0])
        rw [HG.out]
        go_enter Try.func31, Try.ntmps31
        go_wp2
        first
          | go_region_held3 (fun w' => w'.cell? ⟨w.heap.size, 0, none⟩ = some (.slice (A) n c) ∧ w'.cell? ⟨w.heap.size, 1, none⟩ = some (.int .i64 (f)) ∧ w'.cell? ⟨w.heap.size, 2, none⟩ = some (.int .i64 (u)) ∧ w.heap.size < w'.heap.size ∧ RowI w' (A) z ∧ w'.cell? ⟨w.heap.size + 1, 0, none⟩ = some (.int .i64 x) ∧ w.heap.size + 1 < w'.heap.size ∧ w'.cell? ⟨w.heap.size + 1 + 1, 0, none⟩ = some (.int .i64 o) ∧ w.heap.size + 1 + 1 < w'.heap.size ∧ w'.cell? ⟨w.heap.size + 1 + 1 + 1, 0, none⟩ = some (.int .i64 r) ∧ w.heap.size + 1 + 1 + 1 < w'.heap.size) (((try dsimp only at *); (try go_split_ands); (repeat' apply And.intro) <;> first | (with_reducible assumption) | (rw [qc _ _ (by with_reducible assumption)]; with_reducible assumption) | (with_reducible exact qz _ (by with_reducible assumption)) | (with_reducible exact RowI.below (by with_reducible assumption) (by with_reducible assumption)) | (simp [*, go_sem]; done) | omega | (refine RowI.drew ?_; simp [*]; done) | ((repeat (first | (with_reducible assumption) | (with_reducible refine RowI.drew ?_) | (with_reducible refine RowI.drewN ?_ _) | (with_reducible refine RowI.alloc ?_ _) | (with_reducible refine RowI.below ?_ (by with_reducible assumption)))); done) | (refine RowI.below ?_ (by assumption); first | (simp [*]; done) | (refine RowI.drew ?_; simp [*]; done))))
              (first
                | (go_at_call 44; (apply Calls.mono; focus ((with_reducible apply (isKilos_v ho)); (all_goals (first | (with_reducible assumption) | omega | ((repeat (first | (with_reducible assumption) | (with_reducible refine RowI.drewN ?_ _) | (with_reducible refine RowI.drew ?_) | (with_reducible refine RowI.alloc ?_ _) | (with_reducible refine RowI.below ?_ (by with_reducible assumption)))); done) | assumption | (simp; done) | (simp [*]; done))); done)); rintro e w' ⟨rfl, rfl⟩)
                | (go_at_call 48; (apply Calls.mono; focus ((with_reducible apply (isRopeMass_v hr)); (all_goals (first | (with_reducible assumption) | omega | ((repeat (first | (with_reducible assumption) | (with_reducible refine RowI.drewN ?_ _) | (with_reducible refine RowI.drew ?_) | (with_reducible refine RowI.alloc ?_ _) | (with_reducible refine RowI.below ?_ (by with_reducible assumption)))); done) | assumption | (simp; done) | (simp [*]; done))); done)); rintro e w' ⟨rfl, rfl⟩)
                | (go_at_call 43; (apply Calls.mono; focus ((with_reducible apply (loaded_v hcode hz hn)); (all_goals (first | (with_reducible assumption) | omega | ((repeat (first | (with_reducible assumption) | (with_reducible refine RowI.drewN ?_ _) | (with_reducible refine RowI.drew ?_) | (with_reducible refine RowI.alloc ?_ _) | (with_reducible refine RowI.below ?_ (by with_reducible assumption)))); done) | assumption | (simp; done) | (simp [*]; done))); done)); rintro e w' ⟨rfl, hb⟩; obtain ⟨qc, qf, qz, qs⟩ := bfacts hb; (try simp only [World.size_alloc, World.size_setCell, World.size_drew, World.heap_drewN] at qs)))
          | fail
        go_wp2
        go_returns
        refine ⟨rfl, ?_⟩
        repeat' (first
          | (with_reducible exact Below.refl _ _)
          | (with_reducible assumption)
          | (with_reducible refine Below.alloc ?_ ?_ _)
          | (with_reducible refine Below.drew ?_)
          | (with_reducible refine bdrewN ?_ _)
          | (with_reducible refine Below.setCell ?_ ?_ _)
          | (with_reducible refine bthen (by assumption) ?_ ?_)
          | go_size)
set_option maxHeartbeats 2000000 in
theorem specBalanceKilos_c (A : Option Addr) (n c : Nat) (z : List Int) (f u x o r : Int) (hz : z.length = n * 2) (hn : n ≤ 1048576) (w : World) (hrow : RowI w A z) : Calls Try.prog 30 #[.agg #[.slice A n c, .int .i64 f, .int .i64 u], .int .i64 x, .int .i64 o, .int .i64 r] w fun e w' => e = .returned (.tuple #[.int .i64 (fBalanceKilos z n f u x o r).1, .int .i64 (fBalanceKilos z n f u x o r).2]) ∧ Below w.heap.size w w' := by
  obtain ⟨m, hm⟩ : ∃ m, (inB o 0 100000 && inB r 0 20000) = m := ⟨_, rfl⟩
  have hask : (inB 0 0 100000 && inB o 0 100000 && inB r 0 20000) = m := by rw [← hm]; simp [inB]
  obtain ⟨code, hcode⟩ : ∃ code, codeT z n f u x m = code := ⟨_, rfl⟩
  by_cases hz0 : code = 0
  ·
    subst hz0
    have HG := Lib.hid (show fBalanceKilos z n f u x o r = ((fBal z n x o r).1, (fBal z n x o r).2) by unfold fBalanceKilos; rw [hm, hcode, if_pos rfl])
    rw [HG.out]
    clear HG
    obtain ⟨ht, hx, rfl⟩ := codeT_zero hcode
    obtain ⟨x0, x1⟩ := inB_true hx
    simp only [Bool.and_eq_true] at hm
    obtain ⟨ho, hr⟩ := hm
    obtain ⟨⟨n0, n1⟩, hs, ⟨L0, L1⟩, _⟩ := trackB_true ht
    obtain ⟨o0, o1⟩ := inB_true ho
    obtain ⟨r0, r1⟩ := inB_true hr
    go_enter Try.func30, Try.ntmps30
    go_wp2_with
      (first
        | (go_at_call 40; (apply Calls.mono; focus ((with_reducible apply (l07Ask_v (A := A) (c := c) hask hcode _ hz hn)); (all_goals (first | (with_reducible assumption) | omega | ((repeat (first | (with_reducible assumption) | (with_reducible refine RowI.drewN ?_ _) | (with_reducible refine RowI.drew ?_) | (with_reducible refine RowI.alloc ?_ _) | (with_reducible refine RowI.below ?_ (by with_reducible assumption)))); done) | assumption | (simp; done) | (simp [*]; done))); done)); rintro e w' ⟨rfl, nq, rfl⟩))
    have hr1 := hrow.alloc (.cells #[.slice A n c, .int .i64 f, .int .i64 u] 30)
    have tb := TrackBox.new w 30 A n c f u
    have hBw : Below w.heap.size w (w.alloc (.cells #[.slice A n c, .int .i64 f, .int .i64 u] 30)) := (Below.refl _ _).alloc (Nat.le_refl _) _
    generalize w.alloc (.cells #[.slice A n c, .int .i64 f, .int .i64 u] 30) = W at *
    have t0 := tb.c0
    have t1 := tb.c1
    have t2 := tb.c2
    have HNE := Lib.hid (fun k k0 k1 w' hr h0 => l07Net_c A n c z x k o r w.heap.size hz n0 n1 hs x0 x1 L1 k0 k1 o0 o1 r0 r1 w' hr h0)
    clear hrow hcode ht hask ho
    have HMO := Lib.hid (show ∀ v v', v ≤ v' → balB z n x o r v = true → balB z n x o r v' = true from fun v v' h k => balB_mono hs n0 h k)
    have HU := Lib.hid (show ∀ q, LeastAt (balB z n x o r) 0 100000 q → balI z n x o r = q from fun q hq => (leastAt_unique hq (balI_at z n x o r)).symm)
    cases htop : balB z n x o r 100000
    · have HB := Lib.hid (HU.out 100001 ⟨by omega, by omega, fun v h1 h2 => Bool.eq_false_iff.2 (fun hv => by have := HMO.out v 100000 (by omega) hv; rw [htop] at this; cases this), fun h => by omega⟩)
      have hlow : netI z n x 100000 o r < 0 := by simp only [balB, decide_eq_false_iff_not] at htop; omega
      have HF := Lib.hid (show fBal z n x o r = (0, 3) by rw [fBal, HB.out]; rfl)
      go_wp2_with
        (first
          | (go_at_call 52; (refine (HNE.out 100000 (by omega) (by omega) _ (hr1.drewN _) t0).mono ?_); rintro e w' ⟨rfl, nq, rfl⟩))
      go_returns
      exact ⟨by (rw [HF.out]) <;> rfl, by first | exact bdrewN hBw _ | exact bdrewN (bdrewN hBw _) _⟩
    · have hhigh : ¬ netI z n x 100000 o r < 0 := by simp only [balB, decide_eq_true_eq] at htop; omega
      have HTOP := Lib.hid htop
      clear htop
      go_wp2_with
        (first
          | (go_at_call 52; (refine (HNE.out 100000 (by omega) (by omega) _ (hr1.drewN _) t0).mono ?_); rintro e w' ⟨rfl, nq, rfl⟩))
      go_loopw [11, 12] (fun p' q wr => ∃ a b : Int, 0 ≤ a ∧ a ≤ b ∧ b ≤ 100000 ∧ Hid (∀ v, 0 ≤ v → v < a → balB z n x o r v = false) ∧ Hid (balB z n x o r b = true) ∧ p' = .int .i64 a ∧ q = .int .i64 b ∧ ∃ j, wr = W.drewN j) (fun p' q _ => (intOf q - intOf p').toNat)
      case atStart => exact ⟨0, 100000, by omega, by omega, by omega, Lib.hid (fun v _ _ => by omega), HTOP, rfl, rfl, (by first | exact ⟨_, rfl⟩ | exact ⟨_, World.drewN_drewN _ _ _⟩ | exact ⟨0, rfl⟩)⟩
      case round =>
        obtain ⟨a, b, ha, hab, hb, HA, HB, rfl, rfl, j, rfl⟩ := hrel
        by_cases hlt : a < b
        · have m0 : 0 ≤ (a + b) / 2 := by omega
          have m1 : (a + b) / 2 ≤ 100000 := by omega
          have m2 : a ≤ (a + b) / 2 := by omega
          have m3 : (a + b) / 2 < b := by omega
          cases hm : balB z n x o r ((a + b) / 2)
          · have hq : ¬ 0 ≤ netI z n x ((a + b) / 2) o r := by simpa only [balB, decide_eq_false_iff_not] using hm
            go_wp2_with
              (first
                | (go_at_call 52; (refine (HNE.out _ m0 m1 _ (hr1.drewN _) t0).mono ?_); rintro e w' ⟨rfl, nq, rfl⟩))
            go_roundw
            case rel => exact ⟨(a + b) / 2 + 1, b, by omega, by omega, by omega, Lib.hid (fun v hv1 hv2 => Bool.eq_false_iff.2 (fun hv => by have := HMO.out v ((a + b) / 2) (by omega) hv; rw [hm] at this; cases this)), HB, rfl, rfl, (by first | exact ⟨_, rfl⟩ | exact ⟨_, World.drewN_drewN _ _ _⟩ | exact ⟨0, rfl⟩)⟩
            case measure => simp [intOf]; omega
          · have hq : 0 ≤ netI z n x ((a + b) / 2) o r := by simpa only [balB, decide_eq_true_eq] using hm
            go_wp2_with
              (first
                | (go_at_call 52; (refine (HNE.out _ m0 m1 _ (hr1.drewN _) t0).mono ?_); rintro e w' ⟨rfl, nq, rfl⟩))
            go_roundw
            case rel => exact ⟨a, (a + b) / 2, by omega, by omega, by omega, HA, Lib.hid hm, rfl, rfl, (by first | exact ⟨_, rfl⟩ | exact ⟨_, World.drewN_drewN _ _ _⟩ | exact ⟨0, rfl⟩)⟩
            case measure => simp [intOf]; omega
        · obtain rfl : a = b := by omega
          have HQ := Lib.hid (HU.out a ⟨ha, by omega, fun v hv1 hv2 => HA.out v hv1 hv2, fun _ => HB.out⟩)
          have HF := Lib.hid (show fBal z n x o r = (a, 0) by rw [fBal, HQ.out, if_neg (by omega)])
          go_wp2
          go_returns
          exact ⟨by (rw [HF.out]) <;> rfl, by first | exact bdrewN hBw _ | exact bdrewN (bdrewN hBw _) _⟩
  ·
    have hne2 : (code != 0) = true := by simpa using hz0
    have HG := Lib.hid (show fBalanceKilos z n f u x o r = (0, code) by unfold fBalanceKilos; rw [hm, hcode, if_neg hz0])
    rw [HG.out]
    go_enter Try.func30, Try.ntmps30
    go_wp2_with
      (first
        | (go_at_call 40; (apply Calls.mono; focus ((with_reducible apply (l07Ask_v (A := A) (c := c) hask hcode _ hz hn)); (all_goals (first | (with_reducible assumption) | omega | ((repeat (first | (with_reducible assumption) | (with_reducible refine RowI.drewN ?_ _) | (with_reducible refine RowI.drew ?_) | (with_reducible refine RowI.alloc ?_ _) | (with_reducible refine RowI.below ?_ (by with_reducible assumption)))); done) | assumption | (simp; done) | (simp [*]; done))); done)); rintro e w' ⟨rfl, nq, rfl⟩))
    go_returns
    refine ⟨rfl, ?_⟩
    repeat' (first
      | (with_reducible exact Below.refl _ _)
      | (with_reducible assumption)
      | (with_reducible refine Below.alloc ?_ ?_ _)
      | (with_reducible refine Below.drew ?_)
      | (with_reducible refine bdrewN ?_ _)
      | (with_reducible refine Below.setCell ?_ ?_ _)
      | (with_reducible refine bthen (by assumption) ?_ ?_)
      | go_size)
set_option maxHeartbeats 2000000 in
theorem walk_FnExactBalanceKilos (A : Option Addr) (n c : Nat) (z : List Int) (f u : Int) (x : Int) (o : Int) (r : Int) (w : World) (h : StructArg 2 w A n z) (_ : I64 f) (_ : I64 u) (_ : I64 x) (_ : I64 o) (_ : I64 r) : Calls Try.prog 10 #[.agg #[.slice A n c, .int .i64 f, .int .i64 u], .int .i64 x, .int .i64 o, .int .i64 r] w fun e w' => e = .returned (.bool true) ∧ Below w.heap.size w w' := by
  obtain ⟨hz, hmax, hr, _⟩ := h
  have HSZ := Lib.hid (szTrack_c A n c f u hmax)
  by_cases hn : n ≤ 1048576
  · rw [if_pos hn] at HSZ
    have hn1 : (0 : Int) ≤ 1048576 - n := by omega
    have tb0 := (TrackBox.new w 24 A n c f u)
    have hr0 := hr.alloc (.cells #[.slice A n c, .int .i64 f, .int .i64 u] 24)
    go_enter Try.func10, Try.ntmps10
    go_wp2_with (go_at_call 13; (refine (HSZ.out _).mono ?_); rintro e w1 ⟨rfl, hb1⟩; have tb1 := tb0.below hb1; have a10 := tb1.c0; have a11 := tb1.c1; have a12 := tb1.c2; have hr1 := hr0.below hb1)
    go_wp2_with (go_at_call 15; (refine (toTrack_c A n c z f u hz hn _ hr1).mono ?_); rintro e w2 ⟨B, rfl, hR2, hb2⟩; have tb2 := tb1.below hb2; have a20 := tb2.c0; have a21 := tb2.c1; have a22 := tb2.c2; have hr2 := hr1.below hb2)
    go_wp2_with (go_at_call 30; (refine (specBalanceKilos_c B n n z f u _ _ _ hz hn _ hR2).mono ?_); rintro e w3 ⟨rfl, hb3⟩; have tb3 := tb2.below hb3; have a30 := tb3.c0; have a31 := tb3.c1; have a32 := tb3.c2; have hr3 := hr2.below hb3)
    go_wp2_with (go_at_call 15; (refine (toTrack_c A n c z f u hz hn _ hr3).mono ?_); rintro e w4 ⟨D, rfl, hR4, hb4⟩; have tb4 := (tb3.below hb4).alloc (.cells #[.slice D n n, .int .i64 f, .int .i64 u] 30); have hr4 := (hr3.below hb4).alloc (.cells #[.slice D n n, .int .i64 f, .int .i64 u] 30); have td4 := TrackBox.new w4 30 D n n f u; have hR4' := hR4.alloc (.cells #[.slice D n n, .int .i64 f, .int .i64 u] 30))
    go_wp2_with (go_at_call 31; (refine (implBalanceKilos_c D n n z f u _ _ _ hz hn _ hR4').mono ?_); rintro e w5 ⟨rfl, hb5⟩; have tb5 := tb4.below hb5; have td5 := td4.below hb5; have hr5 := hr4.below hb5; have hR5 := hR4'.below hb5)
    have s0 := tb5.c0
    have s1 := tb5.c1
    have s2 := tb5.c2
    have s3 := tb5.lt
    have d0 := td5.c0
    have d1 := td5.c1
    have d2 := td5.c2
    have d3 := td5.lt
    have z1 : w.heap.size ≤ w1.heap.size := by have := hb1.size; simp only [World.size_alloc] at this; omega
    have z2 : w1.heap.size ≤ w2.heap.size := hb2.size
    have z3 : w2.heap.size ≤ w3.heap.size := hb3.size
    have z4 : w3.heap.size ≤ w4.heap.size := hb4.size
    have z5 : w4.heap.size ≤ w5.heap.size := by have := hb5.size; simp only [World.size_alloc] at this; omega
    have hB5 : Below w.heap.size w w5 := by
      repeat' (first
        | (with_reducible exact Below.refl _ _)
        | (with_reducible assumption)
        | (with_reducible refine Below.alloc ?_ ?_ _)
        | (with_reducible refine Below.drew ?_)
        | (with_reducible refine bdrewN ?_ _)
        | (with_reducible refine Below.setCell ?_ ?_ _)
        | (with_reducible refine bthen (by assumption) ?_ ?_)
        | go_size)
    clear tb0 tb1 tb2 tb3 tb4 tb5 td4 td5 hb1 hb2 hb3 hb4 hb5 a10 a11 a12 a20 a21 a22 a30 a31 a32 hr0 hr1 hr2 hr3 hr4 hR2 hR4 hR4'
    go_wp2
    first
      | go_region_held3 (fun w' => w'.cell? ⟨w.heap.size, 0, none⟩ = some (.slice A n c) ∧ w'.cell? ⟨w.heap.size, 1, none⟩ = some (.int .i64 f) ∧ w'.cell? ⟨w.heap.size, 2, none⟩ = some (.int .i64 u) ∧ w'.cell? ⟨w4.heap.size, 0, none⟩ = some (.slice D n n) ∧ w'.cell? ⟨w4.heap.size, 1, none⟩ = some (.int .i64 f) ∧ w'.cell? ⟨w4.heap.size, 2, none⟩ = some (.int .i64 u) ∧ w.heap.size < w'.heap.size ∧ w4.heap.size < w'.heap.size ∧ RowI w' A z ∧ RowI w' D z) (((try dsimp only at *); (try go_split_ands); (repeat' apply And.intro) <;> first | (with_reducible assumption) | (rw [qc _ _ (by with_reducible assumption)]; with_reducible assumption) | (with_reducible exact qz _ (by with_reducible assumption)) | (with_reducible exact RowI.below (by with_reducible assumption) (by with_reducible assumption)) | (simp [*, go_sem]; done) | omega | (refine RowI.drew ?_; simp [*]; done) | ((repeat (first | (with_reducible assumption) | (with_reducible refine RowI.drew ?_) | (with_reducible refine RowI.drewN ?_ _) | (with_reducible refine RowI.alloc ?_ _) | (with_reducible refine RowI.below ?_ (by with_reducible assumption)))); done) | (refine RowI.below ?_ (by assumption); first | (simp [*]; done) | (refine RowI.drew ?_; simp [*]; done))))
        (first
          | (go_at_call 15; (apply Calls.mono; focus ((with_reducible apply (toTrack_c A n c z f u hz hn)); (all_goals (first | (with_reducible assumption) | (simp [*]; done))); done)); rintro e w' ⟨B', rfl, hR', hb⟩; obtain ⟨qc, qf, qz, qs⟩ := bfacts hb; (try simp only [World.size_alloc, World.size_setCell, World.size_drew, World.heap_drewN] at qs))
          | (go_at_call 17; (apply Calls.mono; focus ((with_reducible apply (eqTrack_c _ _ n _ _ z f u hz hn)); (all_goals (first | (with_reducible assumption) | (simp [*]; done))); done)); rintro e w' ⟨rfl, hb⟩; obtain ⟨qc, qf, qz, qs⟩ := bfacts hb; (try simp only [World.size_alloc, World.size_setCell, World.size_drew, World.heap_drewN] at qs)))
      | fail
    go_wp2
    go_returns
    refine ⟨by simp, ?_⟩
    repeat' (first
      | (with_reducible exact Below.refl _ _)
      | (with_reducible assumption)
      | (with_reducible refine Below.alloc ?_ ?_ _)
      | (with_reducible refine Below.drew ?_)
      | (with_reducible refine bdrewN ?_ _)
      | (with_reducible refine Below.setCell ?_ ?_ _)
      | (with_reducible refine bthen (by assumption) ?_ ?_)
      | go_size)
  · rw [if_neg hn] at HSZ
    go_enter Try.func10, Try.ntmps10
    go_wp2_with (go_at_call 13; (refine (HSZ.out _).mono ?_); rintro e w1 ⟨rfl, hb1⟩)
    go_returns
    refine ⟨by simp, ?_⟩
    repeat' (first
      | (with_reducible exact Below.refl _ _)
      | (with_reducible assumption)
      | (with_reducible refine Below.alloc ?_ ?_ _)
      | (with_reducible refine Below.drew ?_)
      | (with_reducible refine bdrewN ?_ _)
      | (with_reducible refine Below.setCell ?_ ?_ _)
      | (with_reducible refine bthen (by assumption) ?_ ?_)
      | go_size)
end Go.Proofs.Ytmkfkpfblnblgaa
