/- The laws' copies and comparisons of tracks. -/
import Derived.Test.YtmkfkpfblnblgaaX2
namespace Go.Proofs.Ytmkfkpfblnblgaa
open Go.ChangeShapes Go.WideShapes Go.ChangeAt Go.RowKit
set_option linter.unusedVariables false
set_option linter.unusedSimpArgs false

theorem nth_mixL {z : List Int} {k i : Nat} (hk : k ≤ z.length) (hi : i < z.length) : nth (mixL z k) i = if i < k then nth z i else 0 := by
  have h := mixL_get z k i hk
  unfold nth
  rw [List.getD_eq_getElem?_getD, h]
  by_cases g : i < k
  · rw [if_pos g, if_pos g, List.getD_eq_getElem?_getD]
  · rw [if_neg g, if_neg g, if_pos hi]
    rfl
theorem mixL_length {z : List Int} {k : Nat} (hk : k ≤ z.length) : (mixL z k).length = z.length := by
  unfold mixL
  rw [List.length_append, List.length_take, List.length_replicate]
  omega
theorem RowI.setO {w : World} {b o : Nat} {xs : List Int} {c k : Nat} {v : Value} (h : RowI w (some ⟨b, o, none⟩) xs) (hne : c ≠ b) : RowI (w.setCell ⟨c, k, none⟩ v) (some ⟨b, o, none⟩) xs := fun hn => by
  obtain ⟨b', off, e, hb, hc⟩ := h hn
  injection e with e
  injection e with e1 e2
  subst e1
  subst e2
  refine ⟨b, o, rfl, by simpa using hb, fun i hi => ?_⟩
  rw [World.cell?_setCell_other _ _ _ _ (by intro q; injection q with q1; first | exact hne q1 | exact hne q1.symm)]
  exact hc i hi
/-- A row in a block of its own, which may be written: the first k numbers of z, then zeros. -/
def MixAt (b : Nat) (z : List Int) (k : Nat) (w : World) : Prop := b < w.heap.size ∧ ∀ i, i < z.length → w.cell? ⟨b, i, none⟩ = some (.int .i64 (nth (mixL z k) i)) ∧ w.frozen? ⟨b, i, none⟩ = false
theorem MixAt.below {b : Nat} {z : List Int} {k : Nat} {w w' : World} (h : MixAt b z k w) (hb : Below w.heap.size w w') : MixAt b z k w' :=
  ⟨Nat.lt_of_lt_of_le h.1 hb.size, fun i hi => ⟨(hb.cell (p := ⟨b, i, none⟩) h.1).trans (h.2 i hi).1, (hb.frozen (p := ⟨b, i, none⟩) h.1).trans (h.2 i hi).2⟩⟩
theorem MixAt.new (w : World) (t : TypeId) (z : List Int) : MixAt w.heap.size z 0 (w.alloc (.cells (mixA z 0) t)) :=
  ⟨by simp, fun i hi => ⟨by
    have h : (mixA z 0)[i]? = some (.int .i64 (nth (mixL z 0) i)) := ints_at (by rw [mixL_length (by omega)]; exact hi)
    simp [h], by simp⟩⟩
theorem MixAt.row {b : Nat} {z : List Int} {w : World} (h : MixAt b z z.length w) : RowI w (some ⟨b, 0, none⟩) z := fun _ =>
  ⟨b, 0, rfl, h.1, fun i hi => by
    have := (h.2 i hi).1
    rw [nth_mixL (Nat.le_refl _) hi, if_pos hi] at this
    simpa using this⟩
theorem MixAt.set1 {b : Nat} {z : List Int} {k : Nat} {w : World} (h : MixAt b z k w) (hk : k < z.length) : MixAt b z (k + 1) (w.setCell ⟨b, k, none⟩ (.int .i64 (nth z k))) := by
  obtain ⟨h1, h2⟩ := h
  refine ⟨by simpa using h1, fun i hi => ?_⟩
  obtain ⟨c1, c2⟩ := h2 i hi
  obtain ⟨d1, d2⟩ := h2 k hk
  refine ⟨?_, by simpa using c2⟩
  by_cases e : i = k
  · subst e
    rw [nth_mixL (by omega) hi, if_pos (by omega)]
    simp [d1, go_sem]
  · rw [nth_mixL (by omega) hi]
    rw [nth_mixL (by omega) hi] at c1
    have hne : (⟨b, k, none⟩ : Addr) ≠ ⟨b, i, none⟩ := by
      intro q
      injection q with _ q2 _
      exact e q2.symm
    rw [World.cell?_setCell_other _ _ _ _ (by first | exact hne | exact hne.symm), c1]
    by_cases g : i < k
    · rw [if_pos g, if_pos (by omega)]
    · rw [if_neg g, if_neg (by omega)]
theorem toSection_c (x y : Int) (w : World) : Calls Try.prog 75 #[.agg #[.int .i64 x, .int .i64 y]] w fun e w' => e = .returned (.agg #[.int .i64 x, .int .i64 y]) ∧ Below w.heap.size w w' := by
  go_enter Try.func75, Try.ntmps75
  go_wp2
  go_returns
  refine ⟨rfl, ?_⟩
  go_grown
theorem toSectionS_c (A : Option Addr) (n c : Nat) (z : List Int) (hz : z.length = n * 2) (hn : n ≤ 1048576) (w : World) (hr : RowI w A z) : Calls Try.prog 42 #[.slice A n c] w fun e w' => e = .returned (.slice (some ⟨w.heap.size, 0, none⟩) n n) ∧ RowI w' (some ⟨w.heap.size, 0, none⟩) z ∧ w.heap.size < w'.heap.size ∧ Below w.heap.size w w' := by
  obtain ⟨i, hi, hzz, hsz, hby⟩ := info_parts (show (Try.prog.info? 70).map (fun i => (i.zero, i.size, i.bytes)) = some (some (.agg #[.int .i64 0, .int .i64 0]), 2, 16) by kernel_rfl)
  have hmk : ∀ W : World, (Instr.makeSlice 28 (.int .i64 (n : Int)) (.int .i64 (n : Int))).run Try.prog W = .ok (.slice (some ⟨W.heap.size, 0, none⟩) n n) (W.alloc (.cells (mixA z 0) 70)) := fun W => by
    have hm : madeCells (Value.agg #[.int .i64 0, .int .i64 0]).cells (n * 2) = mixA z 0 := by
      apply Array.ext_getElem?
      intro j
      rw [mixA, ints_get, mixL_get z 0 j (by omega), if_neg (by omega)]
      by_cases h : j < z.length
      · rw [if_pos h]
        rcases Nat.mod_two_eq_zero_or_one j with g | g <;> simp [madeCells, Value.cells, show j < n * 2 by omega, g]
      · rw [if_neg h]
        simp [madeCells, show ¬ j < n * 2 by omega]
    rw [run_make_rowN (P := Try.prog) 28 70 i _ Try.underlying28 hi hzz .i64 .i64 n n (Nat.le_refl _) (by rw [hby]; omega) (by omega) W, hsz, hm]
  clear hi hzz hsz hby
  have hM0 := MixAt.new w 70 z
  have hB0 : Below w.heap.size w (w.alloc (.cells (mixA z 0) 70)) := (Below.refl _ _).alloc (Nat.le_refl _) _
  go_enter Try.func42, Try.ntmps42
  go_wp2
  clear hmk
  generalize w.alloc (.cells (mixA z 0) 70) = W at *
  have HM0 := Lib.hid hM0
  clear hM0
  go_loopw [4] (fun v wr => ∃ k : Nat, k ≤ n ∧ v = .int .i64 k ∧ Hid (MixAt w.heap.size z (k * 2) wr) ∧ Below w.heap.size w wr) (fun v _ => n - (intOf v).toNat)
  case atStart => exact ⟨0, by omega, rfl, HM0, hB0⟩
  case round =>
    obtain ⟨k, hk, rfl, HM, hBr⟩ := hrel
    by_cases hlt : k < n
    · obtain ⟨b, off, rfl, hbb, c1, c2⟩ := (hr.below hBr).sec hz hlt
      have i1 : (k : Int) < n := by omega
      go_wp2_with (go_at_call 75; go_call (toSection_c _ _ _); rintro e wC ⟨rfl, hb⟩; have hMC := HM.out.below hb; have m1 := (hMC.2 (k * 2) (by omega)).1; have f1 := (hMC.2 (k * 2) (by omega)).2; have m2 := (hMC.2 (k * 2 + 1) (by omega)).1; have f2 := (hMC.2 (k * 2 + 1) (by omega)).2; have lb := hMC.1; have HMC := Lib.hid hMC; clear hMC)
      go_roundw
      case rel => exact ⟨k + 1, by omega, by go_num, Lib.hid (by rw [show (k + 1) * 2 = k * 2 + 1 + 1 by omega]; exact (HMC.out.set1 (by omega)).set1 (by omega)), ((hBr.trans (hb.mono hBr.size)).setCell (Nat.le_refl _) _).setCell (Nat.le_refl _) _⟩
      case measure => simp [intOf]; omega
    · obtain rfl : k = n := by omega
      have HR := Lib.hid (show RowI wr (some ⟨w.heap.size, 0, none⟩) z from (show MixAt w.heap.size z z.length wr from by rw [hz]; exact HM.out).row)
      have hl := HM.out.1
      go_wp2
      go_ret
      exact ⟨rfl, HR.out, hl, hBr⟩
theorem szSectionS_c (A : Option Addr) (n c : Nat) (l : Int) (hl : l = 1048576) (hn : n ≤ 9223372036854775807) (w : World) : Calls Try.prog 39 #[.slice A n c, .int .i64 l] w fun e w' => e = .returned (.int .i64 (if n ≤ 1048576 then l - n else -1)) ∧ w = w' := by
  by_cases h : n ≤ 1048576
  · rw [if_pos h]
    subst hl
    have h0 : (0 : Int) ≤ 1048576 - n := by omega
    go_enter Try.func39, Try.ntmps39
    go_wp2
    go_ret
    exact ⟨rfl, rfl⟩
  · rw [if_neg h]
    subst hl
    have h0 : (1048576 : Int) - n < 0 := by omega
    go_enter Try.func39, Try.ntmps39
    go_wp2
    go_ret
    exact ⟨rfl, rfl⟩
theorem szTrack_c (A : Option Addr) (n c : Nat) (f u : Int) (hn : n ≤ 9223372036854775807) (w : World) : Calls Try.prog 13 #[.agg #[.slice A n c, .int .i64 f, .int .i64 u], .int .i64 1048576] w fun e w' => e = .returned (.int .i64 (if n ≤ 1048576 then 1048576 - n else -1)) ∧ Below w.heap.size w w' := by
  have HC := Lib.hid (szSectionS_c A n c 1048576 rfl hn)
  by_cases h : n ≤ 1048576
  · have h0 : (0 : Int) ≤ 1048576 - n := by omega
    rw [if_pos h] at HC ⊢
    go_enter Try.func13, Try.ntmps13
    go_wp2_with (go_at_call 39; (refine (HC.out _).mono ?_); rintro e w' ⟨rfl, rfl⟩)
    go_ret
    refine ⟨rfl, ?_⟩
    repeat' (first
      | (with_reducible exact Below.refl _ _)
      | (with_reducible assumption)
      | (with_reducible refine Below.alloc ?_ ?_ _)
      | (with_reducible refine Below.drew ?_)
      | (with_reducible refine bdrewN ?_ _)
      | (with_reducible refine Below.setCell ?_ ?_ _)
      | (with_reducible refine bthen (by assumption) ?_ ?_)
      | go_size)
  · rw [if_neg h] at HC ⊢
    go_enter Try.func13, Try.ntmps13
    go_wp2_with (go_at_call 39; (refine (HC.out _).mono ?_); rintro e w' ⟨rfl, rfl⟩)
    go_ret
    refine ⟨rfl, ?_⟩
    repeat' (first
      | (with_reducible exact Below.refl _ _)
      | (with_reducible assumption)
      | (with_reducible refine Below.alloc ?_ ?_ _)
      | (with_reducible refine Below.drew ?_)
      | (with_reducible refine bdrewN ?_ _)
      | (with_reducible refine Below.setCell ?_ ?_ _)
      | (with_reducible refine bthen (by assumption) ?_ ?_)
      | go_size)
set_option maxHeartbeats 1000000 in
theorem toTrack_c (A : Option Addr) (n c : Nat) (z : List Int) (f u : Int) (hz : z.length = n * 2) (hn : n ≤ 1048576) (w : World) (hr : RowI w A z) : Calls Try.prog 15 #[.agg #[.slice A n c, .int .i64 f, .int .i64 u]] w fun e w' => ∃ B, e = .returned (.agg #[.slice B n n, .int .i64 f, .int .i64 u]) ∧ RowI w' B z ∧ Below w.heap.size w w' := by
  go_enter Try.func15, Try.ntmps15
  go_wp2_with (go_at_call 42; (refine (toSectionS_c _ n _ z hz hn _ (((hr.alloc _).alloc _).alloc _)).mono ?_); rintro e w' ⟨rfl, hR, hl, hb⟩; obtain ⟨qc, qf, qz, qs⟩ := bfacts hb)
  ((try simp only [Exit.inBlock, Exit.then]); refine bodyPost_ret (by simp [results, Try.results15, go_sem, *]; try rfl) rfl ?_)
  refine ⟨_, rfl, ?_, ?_⟩
  · repeat (refine RowI.setO ?_ (by omega))
    simpa using hR
  ·
    repeat' (first
      | (with_reducible exact Below.refl _ _)
      | (with_reducible assumption)
      | (with_reducible refine Below.alloc ?_ ?_ _)
      | (with_reducible refine Below.drew ?_)
      | (with_reducible refine bdrewN ?_ _)
      | (with_reducible refine Below.setCell ?_ ?_ _)
      | (with_reducible refine bthen (by assumption) ?_ ?_)
      | go_size)
theorem eqSection_c (x y : Int) (w : World) : Calls Try.prog 80 #[.agg #[.int .i64 x, .int .i64 y], .agg #[.int .i64 x, .int .i64 y]] w fun e w' => e = .returned (.bool true) ∧ Below w.heap.size w w' := by
  go_enter Try.func80, Try.ntmps80
  go_wp2
  go_returns
  refine ⟨rfl, ?_⟩
  repeat' (first
    | (with_reducible exact Below.refl _ _)
    | (with_reducible assumption)
    | (with_reducible refine Below.alloc ?_ ?_ _)
    | (with_reducible refine Below.drew ?_)
    | (with_reducible refine bdrewN ?_ _)
    | (with_reducible refine Below.setCell ?_ ?_ _)
    | (with_reducible refine bthen (by assumption) ?_ ?_)
    | go_size)
set_option maxHeartbeats 1000000 in
theorem eqSectionS_c (A B : Option Addr) (n c d : Nat) (z : List Int) (hz : z.length = n * 2) (hn : n ≤ 1048576) (w : World) (ha : RowI w A z) (hb : RowI w B z) : Calls Try.prog 46 #[.slice A n c, .slice B n d] w fun e w' => e = .returned (.bool true) ∧ Below w.heap.size w w' := by
  go_enter Try.func46, Try.ntmps46
  go_wp2
  go_loopw [5] (fun v wr => ∃ k : Nat, k ≤ n ∧ v = .int .i64 k ∧ Below w.heap.size w wr) (fun v _ => n - (intOf v).toNat)
  case atStart => exact ⟨0, by omega, rfl, Below.refl _ _⟩
  case round =>
    obtain ⟨k, hk, rfl, hBr⟩ := hrel
    by_cases hlt : k < n
    · obtain ⟨b, off, rfl, hbb, c1, c2⟩ := (ha.below hBr).sec hz hlt
      obtain ⟨b', off', rfl, hbb', c1', c2'⟩ := (hb.below hBr).sec hz hlt
      have i1 : (k : Int) < n := by omega
      have hsr := hBr.size
      go_wp2
      first
        | go_region_held3 (fun w' => w'.cell? ⟨b, off + k * 2, none⟩ = some (.int .i64 (secL z k)) ∧ w'.cell? ⟨b, off + k * 2 + 1, none⟩ = some (.int .i64 (secG z k)) ∧ w'.cell? ⟨b', off' + k * 2, none⟩ = some (.int .i64 (secL z k)) ∧ w'.cell? ⟨b', off' + k * 2 + 1, none⟩ = some (.int .i64 (secG z k)) ∧ b < w'.heap.size ∧ b' < w'.heap.size) (((try dsimp only at *); (try go_split_ands); (repeat' apply And.intro) <;> first | (with_reducible assumption) | (rw [qc _ _ (by with_reducible assumption)]; with_reducible assumption) | (with_reducible exact qz _ (by with_reducible assumption)) | (with_reducible exact RowI.below (by with_reducible assumption) (by with_reducible assumption)) | (simp [*, go_sem]; done) | omega | (refine RowI.drew ?_; simp [*]; done) | ((repeat (first | (with_reducible assumption) | (with_reducible refine RowI.drew ?_) | (with_reducible refine RowI.drewN ?_ _) | (with_reducible refine RowI.alloc ?_ _) | (with_reducible refine RowI.below ?_ (by with_reducible assumption)))); done) | (refine RowI.below ?_ (by assumption); first | (simp [*]; done) | (refine RowI.drew ?_; simp [*]; done))))
            (first
              | (go_at_call 80; go_call (eqSection_c _ _ _); rintro e w' ⟨rfl, hb⟩; obtain ⟨qc, qf, qz, qs⟩ := bfacts hb; (try simp only [World.size_alloc, World.size_setCell, World.size_drew, World.heap_drewN] at qs)))
        | fail
      go_wp2
      go_roundw
      case rel =>
        refine ⟨k + 1, by omega, by go_num, ?_⟩
        repeat' (first
          | (with_reducible exact Below.refl _ _)
          | (with_reducible assumption)
          | (with_reducible refine Below.alloc ?_ ?_ _)
          | (with_reducible refine Below.drew ?_)
          | (with_reducible refine bdrewN ?_ _)
          | (with_reducible refine Below.setCell ?_ ?_ _)
          | (with_reducible refine bthen (by assumption) ?_ ?_)
          | go_size)
      case measure => simp [intOf]; omega
    · go_wp2
      go_ret
      exact ⟨rfl, hBr⟩
set_option maxHeartbeats 1000000 in
theorem eqTrack_c (A B : Option Addr) (n c d : Nat) (z : List Int) (f u : Int) (hz : z.length = n * 2) (hn : n ≤ 1048576) (w : World) (ha : RowI w A z) (hb : RowI w B z) : Calls Try.prog 17 #[.agg #[.slice A n c, .int .i64 f, .int .i64 u], .agg #[.slice B n d, .int .i64 f, .int .i64 u]] w fun e w' => e = .returned (.bool true) ∧ Below w.heap.size w w' := by
  go_enter Try.func17, Try.ntmps17
  go_wp2_with
    (first
      | (go_at_call 46; (apply Calls.mono; focus ((with_reducible apply (eqSectionS_c _ _ _ _ _ z hz hn)); (all_goals (first | (with_reducible assumption) | omega | ((repeat (first | (with_reducible assumption) | (with_reducible refine RowI.drewN ?_ _) | (with_reducible refine RowI.drew ?_) | (with_reducible refine RowI.alloc ?_ _) | (with_reducible refine RowI.below ?_ (by with_reducible assumption)))); done) | assumption | (simp; done) | (simp [*]; done))); done)); rintro e w' ⟨rfl, hb⟩; obtain ⟨qc, qf, qz, qs⟩ := bfacts hb; (try simp only [World.size_alloc, World.size_setCell, World.size_drew, World.heap_drewN] at qs); have za : w.heap.size < w'.heap.size := (by omega); have pa0 : w'.cell? ⟨w.heap.size, 0, none⟩ = some (.slice A n c) := (by rw [qc _ _ (by first | assumption | (simp; done) | (simp; omega))]; first | assumption | (simp; done) | (simp [*]; done) | (simp [*, go_sem]; done)); have pa1 : w'.cell? ⟨w.heap.size, 1, none⟩ = some (.int .i64 f) := (by rw [qc _ _ (by first | assumption | (simp; done) | (simp; omega))]; first | assumption | (simp; done) | (simp [*]; done) | (simp [*, go_sem]; done)); have pa2 : w'.cell? ⟨w.heap.size, 2, none⟩ = some (.int .i64 u) := (by rw [qc _ _ (by first | assumption | (simp; done) | (simp; omega))]; first | assumption | (simp; done) | (simp [*]; done) | (simp [*, go_sem]; done)); have zb : (w.heap.size + 1) < w'.heap.size := (by omega); have pb0 : w'.cell? ⟨(w.heap.size + 1), 0, none⟩ = some (.slice B n d) := (by rw [qc _ _ (by first | assumption | (simp; done) | (simp; omega))]; first | assumption | (simp; done) | (simp [*]; done) | (simp [*, go_sem]; done)); have pb1 : w'.cell? ⟨(w.heap.size + 1), 1, none⟩ = some (.int .i64 f) := (by rw [qc _ _ (by first | assumption | (simp; done) | (simp; omega))]; first | assumption | (simp; done) | (simp [*]; done) | (simp [*, go_sem]; done)); have pb2 : w'.cell? ⟨(w.heap.size + 1), 2, none⟩ = some (.int .i64 u) := (by rw [qc _ _ (by first | assumption | (simp; done) | (simp; omega))]; first | assumption | (simp; done) | (simp [*]; done) | (simp [*, go_sem]; done))))
  go_returns
  refine ⟨by simp, ?_⟩
  repeat' (first
    | (with_reducible exact Below.refl _ _)
    | (with_reducible assumption)
    | (with_reducible refine Below.alloc ?_ ?_ _)
    | (with_reducible refine Below.drew ?_)
    | (with_reducible refine bdrewN ?_ _)
    | (with_reducible refine Below.setCell ?_ ?_ _)
    | (with_reducible refine bthen (by assumption) ?_ ?_)
    | go_size)
end Go.Proofs.Ytmkfkpfblnblgaa
