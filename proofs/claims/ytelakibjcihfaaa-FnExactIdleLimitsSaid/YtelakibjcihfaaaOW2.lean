/- The laws' marks on lists of hours and of limits. -/
import Derived.Test.YtelakibjcihfaaaZ
import Derived.Test.YtelakibjcihfaaaOW
namespace Go.Proofs.Ytelakibjcihfaaa
open Go.ChangeShapes Go.WideShapes Go.ChangeAt Go.RowKit
set_option linter.unusedVariables false
set_option linter.unusedSimpArgs false

/-- A block of numbers that may be written. -/
def AllInts (b m : Nat) (w : World) : Prop := b < w.heap.size ∧ ∀ i, i < m → (∃ y : Int, w.cell? ⟨b, i, none⟩ = some (.int .i64 y)) ∧ w.frozen? ⟨b, i, none⟩ = false
theorem AllInts.of {b : Nat} {z : List Int} {w : World} (h : MixAt b z z.length w) : AllInts b z.length w := ⟨h.1, fun i hi => ⟨⟨_, (h.2 i hi).1⟩, (h.2 i hi).2⟩⟩
theorem AllInts.below {b m : Nat} {w w' : World} (h : AllInts b m w) (hb : Below w.heap.size w w') : AllInts b m w' :=
  ⟨Nat.lt_of_lt_of_le h.1 hb.size, fun i hi => by
    obtain ⟨⟨y, hy⟩, hf⟩ := h.2 i hi
    exact ⟨⟨y, (hb.cell (p := ⟨b, i, none⟩) h.1).trans hy⟩, (hb.frozen (p := ⟨b, i, none⟩) h.1).trans hf⟩⟩
theorem AllInts.set {b m : Nat} {w : World} (h : AllInts b m w) (j : Nat) (y : Int) : AllInts b m (w.setCell ⟨b, j, none⟩ (.int .i64 y)) := by
  refine ⟨by simpa using h.1, fun i hi => ?_⟩
  obtain ⟨⟨u, hu⟩, hf⟩ := h.2 i hi
  refine ⟨?_, by simpa using hf⟩
  by_cases e : i = j
  · subst e
    exact ⟨y, by simp [hu, go_sem]⟩
  · have hne : (⟨b, j, none⟩ : Addr) ≠ ⟨b, i, none⟩ := by
      intro q
      injection q with _ q2 _
      exact e q2.symm
    exact ⟨u, by rw [World.cell?_setCell_other _ _ _ _ (by first | exact hne | exact hne.symm), hu]⟩
theorem grown_set {w w' : World} {b : Nat} (h : w.grownBy w' (some b)) (j : Nat) (v : Value) : w.grownBy (w'.setCell ⟨b, j, none⟩ v) (some b) :=
  ⟨h.os, h.tape, h.output, by simpa using h.size, fun k hk hne => (heap_setCell_other w' ⟨b, j, none⟩ k v (fun e => hne (by simp [e]))).trans (h.block k hk hne)⟩
theorem OwnI.kept {e : TypeId} {w w' : World} {B b : Nat} {v : Value} {xs : List Int} (h : OwnI e w B v xs) (hg : w.grownBy w' (some b)) (hb : b < B) : OwnI e w' B v xs := by
  have h0 : w.ownsRow B e 1 v xs.length (xs.map (Value.int .i64)) := h
  refine World.ownsRow.kept h0 hg ?_
  rcases hv : v.ownBlock with _ | k
  · exact .inl rfl
  · refine .inr fun q => ?_
    injection q with q
    have := (h.lt k hv).1
    omega
theorem RowI.kept {w w' : World} {A : Option Addr} {xs : List Int} {b : Nat} (h : RowI w A xs) (hg : w.grownBy w' (some b)) (hA : ∀ g o, A = some ⟨g, o, none⟩ → g ≠ b) : RowI w' A xs := fun hn => by
  obtain ⟨g, o, rfl, hl, hc⟩ := h hn
  refine ⟨g, o, rfl, Nat.lt_of_lt_of_le hl hg.size, fun i hi => ?_⟩
  rw [World.cell?_of_block (a := ⟨g, o + i, none⟩) (hg.block g hl (fun q => hA g o rfl (by injection q)))]
  exact hc i hi
theorem AllInts.kept {w w' : World} {b b' m : Nat} (h : AllInts b m w) (hg : w.grownBy w' (some b')) (hne : b ≠ b') : AllInts b m w' :=
  ⟨Nat.lt_of_lt_of_le h.1 hg.size, fun i hi => by
    have hk := hg.block b h.1 (fun q => hne (by injection q))
    obtain ⟨⟨y, hy⟩, hf⟩ := h.2 i hi
    exact ⟨⟨y, (World.cell?_of_block (a := ⟨b, i, none⟩) hk).trans hy⟩, (World.frozen?_of_block (a := ⟨b, i, none⟩) hk).trans hf⟩⟩
theorem below_grown {a w w' : World} {B b : Nat} (h : Below B a w) (hg : w.grownBy w' (some b)) (hB : B ≤ w.heap.size) (hb : B ≤ b) : Below B a w' :=
  h.grown hg hB fun k hk => by injection hk with hk; omega
set_option maxHeartbeats 1000000 in
theorem toHourS_m (A : Option Addr) (n c : Nat) (z : List Int) (hz : z.length = n * 3) (hn : n ≤ 1048576) (w : World) (hr : RowI w A z) : Calls Try.prog 15 #[.slice A n c] w fun e w' => e = .returned (.slice (some ⟨w.heap.size, 0, none⟩) n n) ∧ RowI w' (some ⟨w.heap.size, 0, none⟩) z ∧ AllInts w.heap.size (n * 3) w' ∧ Below w.heap.size w w' := by
  obtain ⟨i, hi, hzz, hsz, hby⟩ := info_parts (show (Try.prog.info? 40).map (fun i => (i.zero, i.size, i.bytes)) = some (some (.agg #[.int .i64 0, .int .i64 0, .int .i64 0]), 3, 24) by kernel_rfl)
  have hmk : ∀ W : World, (Instr.makeSlice 25 (.int .i64 (n : Int)) (.int .i64 (n : Int))).run Try.prog W = .ok (.slice (some ⟨W.heap.size, 0, none⟩) n n) (W.alloc (.cells (mixA z 0) 40)) := fun W => by
    have hm : madeCells (Value.agg #[.int .i64 0, .int .i64 0, .int .i64 0]).cells (n * 3) = mixA z 0 := by
      apply Array.ext_getElem?
      intro j
      rw [mixA, ints_get, mixL_get z 0 j (by omega), if_neg (by omega)]
      by_cases h : j < z.length
      · rw [if_pos h]
        have h3 : j % 3 = 0 ∨ j % 3 = 1 ∨ j % 3 = 2 := by omega
        rcases h3 with g | g | g <;> simp [madeCells, Value.cells, show j < n * 3 by omega, g]
      · rw [if_neg h]
        simp [madeCells, show ¬ j < n * 3 by omega]
    rw [run_make_rowN (P := Try.prog) 25 40 i _ Try.underlying25 hi hzz .i64 .i64 n n (Nat.le_refl _) (by rw [hby]; omega) (by omega) W, hsz, hm]
  clear hi hzz hsz hby
  have hM0 := MixAt.new w 40 z
  have hB0 : Below w.heap.size w (w.alloc (.cells (mixA z 0) 40)) := (Below.refl _ _).alloc (Nat.le_refl _) _
  go_enter Try.func15, Try.ntmps15
  go_wp2
  clear hmk
  generalize w.alloc (.cells (mixA z 0) 40) = W at *
  have HM0 := Lib.hid hM0
  clear hM0
  go_loopw [4] (fun v wr => ∃ k : Nat, k ≤ n ∧ v = .int .i64 k ∧ Hid (MixAt w.heap.size z (k * 3) wr) ∧ Below w.heap.size w wr) (fun v _ => n - (intOf v).toNat)
  case atStart => exact ⟨0, by omega, rfl, HM0, hB0⟩
  case round =>
    obtain ⟨k, hk, rfl, HM, hBr⟩ := hrel
    by_cases hlt : k < n
    · obtain ⟨b, off, rfl, hbb, c1, c2, c3⟩ := (hr.below hBr).tri hz hlt
      have i1 : (k : Int) < n := by omega
      go_wp2_with (go_at_call 24; go_call (toHour_c _ _ _ _); rintro e wC ⟨rfl, hb⟩; have hMC := HM.out.below hb; have m1 := (hMC.2 (k * 3) (by omega)).1; have f1 := (hMC.2 (k * 3) (by omega)).2; have m2 := (hMC.2 (k * 3 + 1) (by omega)).1; have f2 := (hMC.2 (k * 3 + 1) (by omega)).2; have m3 := (hMC.2 (k * 3 + 2) (by omega)).1; have f3 := (hMC.2 (k * 3 + 2) (by omega)).2; have lb := hMC.1; have HMC := Lib.hid hMC; clear hMC)
      go_roundw
      case rel => exact ⟨k + 1, by omega, by go_num, Lib.hid (by rw [show (k + 1) * 3 = k * 3 + 1 + 1 + 1 by omega]; exact ((HMC.out.set1 (by omega)).set1 (by omega)).set1 (by omega)), (((hBr.trans (hb.mono hBr.size)).setCell (Nat.le_refl _) _).setCell (Nat.le_refl _) _).setCell (Nat.le_refl _) _⟩
      case measure => simp [intOf]; omega
    · obtain rfl : k = n := by omega
      have HR := Lib.hid (show RowI wr (some ⟨w.heap.size, 0, none⟩) z from (show MixAt w.heap.size z z.length wr from by rw [hz]; exact HM.out).row)
      have HX := Lib.hid (show AllInts w.heap.size (k * 3) wr from by rw [← hz]; exact AllInts.of (show MixAt w.heap.size z z.length wr from by rw [hz]; exact HM.out))
      go_wp2
      go_ret
      exact ⟨rfl, HR.out, HX.out, hBr⟩
set_option maxHeartbeats 1000000 in
theorem markHourS_c (b n c : Nat) (k : Int) (hk : 0 ≤ k) (hk' : k ≤ 1000000000) (hn : n ≤ 1048576) (w : World) (h : AllInts b (n * 3) w) : Calls Try.prog 37 #[.slice (some ⟨b, 0, none⟩) n c, .int .i64 k] w fun e w' => e = .returned (.int .i64 (k + n * 3)) ∧ w.grownBy w' (some b) := by
  have HA := Lib.hid h
  clear h
  go_enter Try.func37, Try.ntmps37
  go_wp2
  go_loopw [1, 5] (fun q i wr => ∃ m : Nat, m ≤ n ∧ i = .int .i64 m ∧ q = .int .i64 (k + m * 3) ∧ Hid (AllInts b (n * 3) wr) ∧ w.grownBy wr (some b)) (fun _ i _ => n - (intOf i).toNat)
  case atStart => exact ⟨0, by omega, rfl, by simp, HA, World.grownBy.refl _ _⟩
  case round =>
    obtain ⟨m, hm, rfl, rfl, HW, hG⟩ := hrel
    by_cases hlt : m < n
    · have i1 : (m : Int) < n := by omega
      obtain ⟨⟨y0, c0⟩, f0⟩ := HW.out.2 (m * 3) (by omega)
      obtain ⟨⟨y1, c1⟩, f1⟩ := HW.out.2 (m * 3 + 1) (by omega)
      obtain ⟨⟨y2, c2⟩, f2⟩ := HW.out.2 (m * 3 + 2) (by omega)
      have lb := HW.out.1
      go_wp2
      go_roundw
      case rel => exact ⟨m + 1, by omega, by go_num, by go_num, Lib.hid (((HW.out.set _ _).set _ _).set _ _), grown_set (grown_set (grown_set hG _ _) _ _) _ _⟩
      case measure => simp [intOf]; omega
    · obtain rfl : m = n := by omega
      go_wp2
      go_ret
      exact ⟨rfl, hG⟩
set_option maxHeartbeats 1000000 in
theorem toLimitS_m (A : Option Addr) (n c : Nat) (z : List Int) (hz : z.length = n * 3) (hn : n ≤ 1048576) (w : World) (hr : RowI w A z) : Calls Try.prog 20 #[.slice A n c] w fun e w' => e = .returned (.slice (some ⟨w.heap.size, 0, none⟩) n n) ∧ RowI w' (some ⟨w.heap.size, 0, none⟩) z ∧ AllInts w.heap.size (n * 3) w' ∧ Below w.heap.size w w' := by
  obtain ⟨i, hi, hzz, hsz, hby⟩ := info_parts (show (Try.prog.info? 65).map (fun i => (i.zero, i.size, i.bytes)) = some (some (.agg #[.int .i64 0, .int .i64 0, .int .i64 0]), 3, 24) by kernel_rfl)
  have hmk : ∀ W : World, (Instr.makeSlice 32 (.int .i64 (n : Int)) (.int .i64 (n : Int))).run Try.prog W = .ok (.slice (some ⟨W.heap.size, 0, none⟩) n n) (W.alloc (.cells (mixA z 0) 65)) := fun W => by
    have hm : madeCells (Value.agg #[.int .i64 0, .int .i64 0, .int .i64 0]).cells (n * 3) = mixA z 0 := by
      apply Array.ext_getElem?
      intro j
      rw [mixA, ints_get, mixL_get z 0 j (by omega), if_neg (by omega)]
      by_cases h : j < z.length
      · rw [if_pos h]
        have h3 : j % 3 = 0 ∨ j % 3 = 1 ∨ j % 3 = 2 := by omega
        rcases h3 with g | g | g <;> simp [madeCells, Value.cells, show j < n * 3 by omega, g]
      · rw [if_neg h]
        simp [madeCells, show ¬ j < n * 3 by omega]
    rw [run_make_rowN (P := Try.prog) 32 65 i _ Try.underlying32 hi hzz .i64 .i64 n n (Nat.le_refl _) (by rw [hby]; omega) (by omega) W, hsz, hm]
  clear hi hzz hsz hby
  have hM0 := MixAt.new w 65 z
  have hB0 : Below w.heap.size w (w.alloc (.cells (mixA z 0) 65)) := (Below.refl _ _).alloc (Nat.le_refl _) _
  go_enter Try.func20, Try.ntmps20
  go_wp2
  clear hmk
  generalize w.alloc (.cells (mixA z 0) 65) = W at *
  have HM0 := Lib.hid hM0
  clear hM0
  go_loopw [4] (fun v wr => ∃ k : Nat, k ≤ n ∧ v = .int .i64 k ∧ Hid (MixAt w.heap.size z (k * 3) wr) ∧ Below w.heap.size w wr) (fun v _ => n - (intOf v).toNat)
  case atStart => exact ⟨0, by omega, rfl, HM0, hB0⟩
  case round =>
    obtain ⟨k, hk, rfl, HM, hBr⟩ := hrel
    by_cases hlt : k < n
    · obtain ⟨b, off, rfl, hbb, c1, c2, c3⟩ := (hr.below hBr).tri hz hlt
      have i1 : (k : Int) < n := by omega
      go_wp2_with (go_at_call 51; go_call (toLimit_c _ _ _ _); rintro e wC ⟨rfl, hb⟩; have hMC := HM.out.below hb; have m1 := (hMC.2 (k * 3) (by omega)).1; have f1 := (hMC.2 (k * 3) (by omega)).2; have m2 := (hMC.2 (k * 3 + 1) (by omega)).1; have f2 := (hMC.2 (k * 3 + 1) (by omega)).2; have m3 := (hMC.2 (k * 3 + 2) (by omega)).1; have f3 := (hMC.2 (k * 3 + 2) (by omega)).2; have lb := hMC.1; have HMC := Lib.hid hMC; clear hMC)
      go_roundw
      case rel => exact ⟨k + 1, by omega, by go_num, Lib.hid (by rw [show (k + 1) * 3 = k * 3 + 1 + 1 + 1 by omega]; exact ((HMC.out.set1 (by omega)).set1 (by omega)).set1 (by omega)), (((hBr.trans (hb.mono hBr.size)).setCell (Nat.le_refl _) _).setCell (Nat.le_refl _) _).setCell (Nat.le_refl _) _⟩
      case measure => simp [intOf]; omega
    · obtain rfl : k = n := by omega
      have HR := Lib.hid (show RowI wr (some ⟨w.heap.size, 0, none⟩) z from (show MixAt w.heap.size z z.length wr from by rw [hz]; exact HM.out).row)
      have HX := Lib.hid (show AllInts w.heap.size (k * 3) wr from by rw [← hz]; exact AllInts.of (show MixAt w.heap.size z z.length wr from by rw [hz]; exact HM.out))
      go_wp2
      go_ret
      exact ⟨rfl, HR.out, HX.out, hBr⟩
set_option maxHeartbeats 1000000 in
theorem markLimitS_c (b n c : Nat) (k : Int) (hk : 0 ≤ k) (hk' : k ≤ 1000000000) (hn : n ≤ 1048576) (w : World) (h : AllInts b (n * 3) w) : Calls Try.prog 40 #[.slice (some ⟨b, 0, none⟩) n c, .int .i64 k] w fun e w' => e = .returned (.int .i64 (k + n * 3)) ∧ w.grownBy w' (some b) := by
  have HA := Lib.hid h
  clear h
  go_enter Try.func40, Try.ntmps40
  go_wp2
  go_loopw [1, 5] (fun q i wr => ∃ m : Nat, m ≤ n ∧ i = .int .i64 m ∧ q = .int .i64 (k + m * 3) ∧ Hid (AllInts b (n * 3) wr) ∧ w.grownBy wr (some b)) (fun _ i _ => n - (intOf i).toNat)
  case atStart => exact ⟨0, by omega, rfl, by simp, HA, World.grownBy.refl _ _⟩
  case round =>
    obtain ⟨m, hm, rfl, rfl, HW, hG⟩ := hrel
    by_cases hlt : m < n
    · have i1 : (m : Int) < n := by omega
      obtain ⟨⟨y0, c0⟩, f0⟩ := HW.out.2 (m * 3) (by omega)
      obtain ⟨⟨y1, c1⟩, f1⟩ := HW.out.2 (m * 3 + 1) (by omega)
      obtain ⟨⟨y2, c2⟩, f2⟩ := HW.out.2 (m * 3 + 2) (by omega)
      have lb := HW.out.1
      go_wp2
      go_roundw
      case rel => exact ⟨m + 1, by omega, by go_num, by go_num, Lib.hid (((HW.out.set _ _).set _ _).set _ _), grown_set (grown_set (grown_set hG _ _) _ _) _ _⟩
      case measure => simp [intOf]; omega
    · obtain rfl : m = n := by omega
      go_wp2
      go_ret
      exact ⟨rfl, hG⟩
end Go.Proofs.Ytelakibjcihfaaa
