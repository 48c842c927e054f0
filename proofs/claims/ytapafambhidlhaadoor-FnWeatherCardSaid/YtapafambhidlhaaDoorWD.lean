/- DrawKindsOf, DrawLongestGood. -/
import Derived.Test.YtapafambhidlhaaDoorD6
namespace Go.Proofs.YtapafambhidlhaaDoor
open Go.ChangeShapes Go.WideShapes Go.ChangeAt Go.RowKit
set_option linter.unusedVariables false
set_option linter.unusedSimpArgs false

/-- What a law's argument that is a slice of bytes gives. -/
def ByteArg (W : World) (A : Option Addr) (n : Nat) : Prop := n ≤ 9223372036854775807 ∧ RowB W A n
theorem byteRow_of_trod {H : Type} {enc : TypeId × Value → H} {P : Program} {W : World} {t e : TypeId} {A : Option Addr} {n c : Nat} {d : DataW H} {p : List MemPlace} (ht : P.underlying t = some (.slice e)) (he : P.underlying e = some (.int .u8)) (hC : P.cellsOf e = 1)
    (h : DataW.Trod enc P W 0 (fun _ => true) true t (.slice A n c) d p) : ByteArg W A n := by
  obtain ⟨fuel, hf⟩ := h
  rcases open_ints ht he hC hf with ⟨hcs, _⟩ | ⟨x, l, cc, zs, hcs, _, hl, hm, hz, _, hcell, hwz⟩
  · simp [Value.cells] at hcs
    obtain ⟨rfl, rfl, rfl⟩ := hcs
    exact ⟨by omega, fun h => by omega⟩
  · simp [Value.cells] at hcs
    obtain ⟨rfl, rfl, rfl⟩ := hcs
    unfold maxLen at hm
    have hlen : zs.length = c := by simpa using hz
    refine ⟨by omega, fun hn => ?_⟩
    obtain ⟨b, off, spot⟩ := x
    have hc0 := hcell 0 (by omega)
    have hspot : spot = none := by simpa [Addr.add] using World.cell?_spot hc0
    subst hspot
    have hc' : ∀ i, i < zs.length → W.cell? ⟨b, off + i, none⟩ = some (.int .u8 (zs.getD i 0)) := fun i hi => by
      have := hcell i hi
      unfold Addr.add at this
      by_cases h0 : i = 0
      · subst h0; simpa using this
      · simpa [h0] using this
    refine ⟨b, off, rfl, lt_of_cell (hc' 0 (by omega)), fun i hi => ⟨_, ?_, ?_, hc' i (by omega)⟩⟩
    all_goals
      have hm : zs.getD i 0 ∈ zs := by
        rw [List.getD_eq_getElem?_getD, List.getElem?_eq_getElem (by omega), Option.getD_some]
        exact List.getElem_mem _
      have := bounds_u8 (hwz _ hm)
      omega
theorem b10Long_n {n : Nat} (h : n ≤ 1048576) (A : Option Addr) (c : Nat) (w : World) : Calls Tryd.prog 4 #[.slice A n c] w fun e w' => e = .returned (.bool false) ∧ w = w' := by
  have := b10Long_c A n c w
  rw [show decide ((1048576 : Int) < n) = false by simp; omega] at this
  exact this
theorem b10Long_y {n : Nat} (h : 1048576 < n) (A : Option Addr) (c : Nat) (w : World) : Calls Tryd.prog 4 #[.slice A n c] w fun e w' => e = .returned (.bool true) ∧ w = w' := by
  have := b10Long_c A n c w
  rw [show decide ((1048576 : Int) < n) = true by simp; omega] at this
  exact this
theorem b10Has_v {A : Option Addr} {m c : Nat} {xs : List Int} {x : Int} {b : Bool} (hm : xs.length = m) (h : (xs.any (fun y => decide (y = x))) = b) (hn : m ≤ 1048576) (w : World) (hr : RowI w A xs) : Calls Tryd.prog 11 #[.slice A m c, .int .i64 x] w fun e w' => e = .returned (.bool b) ∧ w = w' := by
  subst hm
  have := b10Has_c A c xs x hn w hr
  rw [h] at this
  exact this
theorem Box3.below {b : Nat} {w w' : World} {r d x : Int} (h : Box3 b w r d x) (hb : Below w.heap.size w w') : Box3 b w' r d x := by
  obtain ⟨h0, c0, c1, c2, hf⟩ := h
  exact ⟨Nat.lt_of_lt_of_le h0 hb.size, (hb.cell (p := ⟨b, 0, none⟩) h0).trans c0, (hb.cell (p := ⟨b, 1, none⟩) h0).trans c1, (hb.cell (p := ⟨b, 2, none⟩) h0).trans c2, fun j => (hb.frozen (p := ⟨b, j, none⟩) h0).trans (hf j)⟩
set_option maxRecDepth 100000 in
set_option maxHeartbeats 4000000 in
theorem DrawKindsOf_c (A : Option Addr) (n c : Nat) (hn : n ≤ 1048576) (w : World) (hr : RowB w A n) : Calls Tryd.prog 5 #[.slice A n c] w fun e w' => (∃ r d x : Int, e = .returned (.agg #[.int .i64 r, .int .i64 d, .int .i64 x])) ∧ Below w.heap.size w w' := by
  have hB0 : Below w.heap.size w (w.alloc (.cells #[.int .i64 0, .int .i64 0, .int .i64 0] 25)) := (Below.refl _ _).alloc (Nat.le_refl _) _
  have B0 := Lib.hid (Box3.new w 25 0 0 0)
  have hr0 := hr.below hB0
  have zz : (w.alloc (.cells #[.int .i64 0, .int .i64 0, .int .i64 0] 25)).heap.size = w.heap.size + 1 := by simp
  generalize hW : w.alloc (.cells #[.int .i64 0, .int .i64 0, .int .i64 0] 25) = W at hB0 B0 hr0 zz
  go_enter Tryd.func5, Tryd.ntmps5
  go_wp2_with (first
    | (go_at_call 16; (with_reducible refine (l00From_c A n c hn _ hr0).mono ?_); rintro e w0 ⟨rfl, hS, hB⟩; have HS0 := Lib.hid (show Src (w.heap.size + 1) 0 w0 by rw [← zz]; exact hS); have HB0 := Lib.hid (hB0.trans (hB.mono (by omega))); have B1 := Lib.hid (B0.out.kept (grown_of_below (k := some (w.heap.size + 1)) hB) (by omega)); have z0 := hB.size; clear hS)
    | (go_at_call 18; (with_reducible refine (l08DrawOne_c _ 0 (by omega) _ HS0.out).mono ?_); rintro e w2 ⟨⟨r, d, x, rfl⟩, hS, hG⟩; have HS2 := Lib.hid hS; have HB2 := Lib.hid (below_grown HB0.out hG (by omega) (by omega)); have B3 := Lib.hid (B1.out.kept hG (by omega)); have z2 := hG.size; clear hS)
    | (go_at_call 17; (with_reducible refine (l08Bent_c _ (0 + 8) (by omega) _ _ _ _ HS2.out).mono ?_); rintro e w3 ⟨⟨r3, d3, x3, rfl⟩, hS, hG⟩; have HS3 := Lib.hid hS; have HB3 := Lib.hid (below_grown HB2.out hG (by omega) (by omega)); have B4 := Lib.hid (B3.out.kept hG (by omega)); have z3 := hG.size; clear hS; obtain ⟨m1, c80, c81, c82, f8⟩ := B4.out; have f80 := f8 0; have f81 := f8 1; have f82 := f8 2))
  ((try simp only [Exit.inBlock, Exit.then]); first | (refine bodyPost_ret (by simp [results, Tryd.results5, go_sem, *]; try rfl) rfl ?_) | (obtain ⟨u0, q0⟩ : ∃ u, w'.cell? ⟨w.heap.size, 0, none⟩ = some u := ⟨_, by simp [*, go_sem]; rfl⟩; obtain ⟨u1, q1⟩ : ∃ u, w'.cell? ⟨w.heap.size, 1, none⟩ = some u := ⟨_, by simp [*, go_sem]; rfl⟩; obtain ⟨u2, q2⟩ : ∃ u, w'.cell? ⟨w.heap.size, 2, none⟩ = some u := ⟨_, by simp [*, go_sem]; rfl⟩; refine bodyPost_ret (by simp [results, Tryd.results5, go_sem, q0, q1, q2]; try rfl) rfl ?_))
  exact ⟨⟨_, _, _, rfl⟩, ((HB3.out.setCell (Nat.le_refl _) _).setCell (Nat.le_refl _) _).setCell (Nat.le_refl _) _⟩
theorem among0_80_200_330_350_351_1000_1001_m1_c (p k : Nat) (hk : k ≤ 900000000) (W : World) (b : Nat) (hb : b = W.heap.size) (h : Src p k W) : Calls Tryd.prog 27 #[.pointer (some ⟨p, 0, none⟩), .slice (some ⟨b, 0, none⟩) 9 9] (W.alloc (.cells #[.int .i64 0, .int .i64 80, .int .i64 200, .int .i64 330, .int .i64 350, .int .i64 351, .int .i64 1000, .int .i64 1001, .int .i64 (-1)] 2)) fun e w' => (∃ r : Int, e = .returned (.int .i64 r)) ∧ Src p (k + 2) w' ∧ W.grownBy w' (some p) :=
  amongL_c p k [0, 80, 200, 330, 350, 351, 1000, 1001, (-1)] hk (by simp) (by simp) W 2 b hb h
set_option maxRecDepth 100000 in
set_option maxHeartbeats 2000000 in
theorem DrawLongestGood_c (A : Option Addr) (n c : Nat) (hn : n ≤ 1048576) (w : World) (hr : RowB w A n) : Calls Tryd.prog 13 #[.slice A n c] w fun e w' => (∃ (A : Option Addr) (n c : Nat) (z : List Int) (x : Int), e = .returned (.tuple #[.slice A n c, .int .i64 x]) ∧ z.length = n * 3 ∧ (n ≤ 100 ∧ n ≤ c) ∧ RowI w' A z) ∧ Below w.heap.size w w' := by
  go_enter Tryd.func13, Tryd.ntmps13
  go_wp2_with (go_at_call 16; (with_reducible refine (l00From_c A n c hn _ hr).mono ?_); rintro e w0 ⟨rfl, hS, hB⟩; have HS0 := Lib.hid hS; clear hS; have z0 := hB.size)
  go_wp2_with (go_at_call 26; (with_reducible refine (l08Draw_c _ 0 (by omega) _ HS0.out).mono ?_); rintro e w1 ⟨⟨A1, m, c1, z, rfl, hz, hm, hR, hA1⟩, hS, hG⟩; have HS1 := Lib.hid hS; have hB1 := below_grown hB hG z0 (Nat.le_refl _); have z1 := hG.size; clear hS)
  go_wp2_with (go_at_call 27; (with_reducible refine (among0_80_200_330_350_351_1000_1001_m1_c _ (0 + 200) (by omega) _ _ (by first | rfl | simp) HS1.out).mono ?_); rintro e w2 ⟨⟨x, rfl⟩, hS, hG⟩; have HS2 := Lib.hid hS; have hB2 := below_grown hB1 hG (by omega) (Nat.le_refl _); have hR2 := hR.kept hG (fun g o e => Nat.ne_of_gt (hA1 g o e)); clear hS)
  go_returns
  exact ⟨⟨A1, m, c1, z, x, by simp, hz, hm, hR2⟩, hB2⟩
end Go.Proofs.YtapafambhidlhaaDoor
