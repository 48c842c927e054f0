/- Draws from bytes: what a draw leaves and between what bounds its number lies. -/
import Derived.Test.YtmmabkmcgffnpaaGK
import Derived.BigQuiet
import Derived.Laws.Bits64b
namespace Go.Proofs.Ytmmabkmcgffnpaa
open Go.ChangeShapes Go.WideShapes Go.ChangeAt Go.RowKit
set_option linter.unusedVariables false
set_option linter.unusedSimpArgs false

/-- A row of n bytes. -/
def RowB (w : World) (A : Option Addr) (n : Nat) : Prop := 0 < n → ∃ b off, A = some ⟨b, off, none⟩ ∧ b < w.heap.size ∧ ∀ i, i < n → ∃ y : Int, 0 ≤ y ∧ y ≤ 255 ∧ w.cell? ⟨b, off + i, none⟩ = some (.int .u8 y)
/-- Block p is a source that has been drawn from k times at most. -/
def Src (p k : Nat) (w : World) : Prop := p < w.heap.size ∧ ∃ (A : Option Addr) (n c : Nat) (a s : Int), n ≤ 1048576 ∧ 0 ≤ a ∧ a ≤ k ∧ 0 ≤ s ∧ s ≤ 18446744073709551615 ∧ w.cell? ⟨p, 0, none⟩ = some (.slice A n c) ∧ w.cell? ⟨p, 1, none⟩ = some (.int .i64 a) ∧ w.cell? ⟨p, 2, none⟩ = some (.int .u64 s) ∧ (∀ j, w.frozen? ⟨p, j, none⟩ = false) ∧ RowB w A n ∧ (0 < n → ∀ b off, A = some ⟨b, off, none⟩ → b < p)
theorem Src.mono {p k k' : Nat} {w : World} (h : Src p k w) (hk : k ≤ k') : Src p k' w := by
  obtain ⟨h0, A, n, c, a, s, h1, h2, h3, h4⟩ := h
  exact ⟨h0, A, n, c, a, s, h1, h2, by omega, h4⟩
theorem RowB.below {w w' : World} {A : Option Addr} {n : Nat} (h : RowB w A n) (hb : Below w.heap.size w w') : RowB w' A n := fun hn => by
  obtain ⟨b, off, e, hl, hc⟩ := h hn
  exact ⟨b, off, e, Nat.lt_of_lt_of_le hl hb.size, fun i hi => by
    obtain ⟨y, y0, y1, hy⟩ := hc i hi
    exact ⟨y, y0, y1, (hb.cell (p := ⟨b, off + i, none⟩) hl).trans hy⟩⟩
theorem Src.below {p k : Nat} {w w' : World} (h : Src p k w) (hb : Below w.heap.size w w') : Src p k w' := by
  obtain ⟨h0, A, n, c, a, s, h1, h2, h3, h4, h5, c0, c1, c2, hf, hr, hne⟩ := h
  exact ⟨Nat.lt_of_lt_of_le h0 hb.size, A, n, c, a, s, h1, h2, h3, h4, h5, (hb.cell (p := ⟨p, 0, none⟩) h0).trans c0, (hb.cell (p := ⟨p, 1, none⟩) h0).trans c1, (hb.cell (p := ⟨p, 2, none⟩) h0).trans c2, fun j => (hb.frozen (p := ⟨p, j, none⟩) h0).trans (hf j), hr.below hb, hne⟩
theorem Src.other {p k b : Nat} {w : World} (h : Src p k w) (hb : p < b) (j : Nat) (v : Value) : Src p k (w.setCell ⟨b, j, none⟩ v) := by
  obtain ⟨h0, A, n, c, a, s, h1, h2, h3, h4, h5, c0, c1, c2, hf, hr, hne⟩ := h
  have e : ∀ g o, g < b → (w.setCell ⟨b, j, none⟩ v).cell? ⟨g, o, none⟩ = w.cell? ⟨g, o, none⟩ := fun g o hg => World.cell?_of_block (a := ⟨g, o, none⟩) (heap_setCell_other w ⟨b, j, none⟩ g v (by show g ≠ b; omega))
  refine ⟨by simpa using h0, A, n, c, a, s, h1, h2, h3, h4, h5, (e p 0 hb).trans c0, (e p 1 hb).trans c1, (e p 2 hb).trans c2, fun i => by simpa using hf i, fun hn => ?_, hne⟩
  obtain ⟨g, off, e1, hl, hc⟩ := hr hn
  exact ⟨g, off, e1, by simpa using hl, fun i hi => by
    obtain ⟨y, y0, y1, hy⟩ := hc i hi
    exact ⟨y, y0, y1, (e g (off + i) (Nat.lt_trans (hne hn g off e1) hb)).trans hy⟩⟩
/-- The two stores of a draw. -/
theorem Src.put {p k : Nat} {w : World} (h : Src p k w) (a' s' : Int) (a0 : 0 ≤ a') (a1 : a' ≤ (k : Int) + 1) (s0 : 0 ≤ s') (s1 : s' ≤ 18446744073709551615) : Src p (k + 1) ((w.setCell ⟨p, 1, none⟩ (.int .i64 a')).setCell ⟨p, 2, none⟩ (.int .u64 s')) := by
  obtain ⟨h0, A, n, c, a, s, h1, h2, h3, h4, h5, c0, c1, c2, hf, hr, hne⟩ := h
  have e01 : (⟨p, 1, none⟩ : Addr) ≠ ⟨p, 0, none⟩ := by simp
  have e02 : (⟨p, 2, none⟩ : Addr) ≠ ⟨p, 0, none⟩ := by simp
  have e12 : (⟨p, 2, none⟩ : Addr) ≠ ⟨p, 1, none⟩ := by simp
  have e21 : (⟨p, 1, none⟩ : Addr) ≠ ⟨p, 2, none⟩ := by simp
  refine ⟨by simpa using h0, A, n, c, a', s', h1, a0, by omega, s0, s1, ?_, ?_, ?_, ?_, ?_, hne⟩
  · rw [World.cell?_setCell_other _ _ _ _ (by first | exact e02 | exact e02.symm), World.cell?_setCell_other _ _ _ _ (by first | exact e01 | exact e01.symm), c0]
  · rw [World.cell?_setCell_other _ _ _ _ (by first | exact e12 | exact e12.symm)]
    simp [c1, go_sem]
  · have c2' : (w.setCell ⟨p, 1, none⟩ (.int .i64 a')).cell? ⟨p, 2, none⟩ = some (.int .u64 s) := by
      rw [World.cell?_setCell_other _ _ _ _ (by first | exact e21 | exact e21.symm), c2]
    simp [c2', go_sem]
  · intro j
    simpa using hf j
  · intro hn
    obtain ⟨b, off, e, hl, hc⟩ := hr hn
    refine ⟨b, off, e, by simpa using hl, fun i hi => ?_⟩
    obtain ⟨y, y0, y1, hy⟩ := hc i hi
    have hb : b ≠ p := Nat.ne_of_lt (hne hn b off e)
    refine ⟨y, y0, y1, ?_⟩
    rw [World.cell?_setCell_other _ _ _ _ (by simp [hb, Ne.symm hb]), World.cell?_setCell_other _ _ _ _ (by simp [hb, Ne.symm hb]), hy]
theorem put_cells {p : Nat} {w : World} {v0 : Value} {a s : Int} (c0 : w.cell? ⟨p, 0, none⟩ = some v0) (c1 : w.cell? ⟨p, 1, none⟩ = some (.int .i64 a)) (c2 : w.cell? ⟨p, 2, none⟩ = some (.int .u64 s)) (a' s' : Int) : ((w.setCell ⟨p, 1, none⟩ (.int .i64 a')).setCell ⟨p, 2, none⟩ (.int .u64 s')).cell? ⟨p, 0, none⟩ = some v0 ∧ ((w.setCell ⟨p, 1, none⟩ (.int .i64 a')).setCell ⟨p, 2, none⟩ (.int .u64 s')).cell? ⟨p, 1, none⟩ = some (.int .i64 a') ∧ ((w.setCell ⟨p, 1, none⟩ (.int .i64 a')).setCell ⟨p, 2, none⟩ (.int .u64 s')).cell? ⟨p, 2, none⟩ = some (.int .u64 s') := by
  have e01 : (⟨p, 1, none⟩ : Addr) ≠ ⟨p, 0, none⟩ := by simp
  have e02 : (⟨p, 2, none⟩ : Addr) ≠ ⟨p, 0, none⟩ := by simp
  have e12 : (⟨p, 2, none⟩ : Addr) ≠ ⟨p, 1, none⟩ := by simp
  have e21 : (⟨p, 1, none⟩ : Addr) ≠ ⟨p, 2, none⟩ := by simp
  refine ⟨?_, ?_, ?_⟩
  · rw [World.cell?_setCell_other _ _ _ _ (by first | exact e02 | exact e02.symm), World.cell?_setCell_other _ _ _ _ (by first | exact e01 | exact e01.symm), c0]
  · rw [World.cell?_setCell_other _ _ _ _ (by first | exact e12 | exact e12.symm)]
    simp [c1, go_sem]
  · have c2' : (w.setCell ⟨p, 1, none⟩ (.int .i64 a')).cell? ⟨p, 2, none⟩ = some (.int .u64 s) := by
      rw [World.cell?_setCell_other _ _ _ _ (by first | exact e21 | exact e21.symm), c2]
    simp [c2', go_sem]
theorem wrapU64 (n : Int) : 0 ≤ IntKind.u64.wrap n ∧ IntKind.u64.wrap n ≤ 18446744073709551615 := by
  have h : IntKind.u64.wrap n = n % 18446744073709551616 := by simp [IntKind.wrap, IntKind.bits, IntKind.signed]
  rw [h]
  omega
theorem band255 {x : Int} (h0 : 0 ≤ x) (h1 : x ≤ 18446744073709551615) : 0 ≤ RowKit.wrap64 (bits .and .u64 x 255) ∧ RowKit.wrap64 (bits .and .u64 x 255) ≤ 255 := by
  obtain ⟨m, rfl⟩ : ∃ m : Nat, x = m := ⟨x.toNat, by omega⟩
  have h := bits_and_u64_nat m 255 (by omega) (by omega)
  have hle : m &&& 255 ≤ 255 := Nat.and_le_right
  have e : (((255 : Nat) : Int)) = 255 := rfl
  rw [e] at h
  rw [h]
  unfold RowKit.wrap64
  omega
theorem grown_drewN (w : World) (q : Nat) (k : Option Nat) : w.grownBy (w.drewN q) k := ⟨rfl, rfl, rfl, Nat.le_refl _, fun _ _ _ => rfl⟩
theorem grown_drewN_after {w w' : World} {k : Option Nat} (h : w.grownBy w' k) (q : Nat) : w.grownBy (w'.drewN q) k := ⟨h.os, h.tape, h.output, h.size, h.block⟩
set_option maxRecDepth 100000 in
set_option maxHeartbeats 2000000 in
theorem next_c (p k : Nat) (hk : k ≤ 1000000000) (w : World) (h : Src p k w) : Calls Try.prog 59 #[.pointer (some ⟨p, 0, none⟩)] w fun e w' => (∃ r : Int, 0 ≤ r ∧ r ≤ 255 ∧ e = .returned (.int .i64 r)) ∧ Src p (k + 1) w' ∧ w.grownBy w' (some p) := by
  have HS := Lib.hid h
  obtain ⟨h0, A, n, c, a, s, h1, h2, h3, h4, h5, c0, c1, c2, hf, hr, hne⟩ := h
  have f1 := hf 1
  have f2 := hf 2
  clear hf
  by_cases hlt : a < n
  · obtain ⟨b, off, rfl, hb, hcc⟩ := hr (by omega)
    obtain ⟨y, y0, y1, hy⟩ := hcc a.toNat (by omega)
    have hl : a + 1 ≤ n := by omega
    have hap : (a.toNat : Int) = a := by omega
    go_enter Try.func59, Try.ntmps59
    go_wp2
    go_quiet (fail)
    go_wp2
    go_quiet (fail)
    go_wp2
    generalize hs' : IntKind.u64.wrap (IntKind.u64.wrap _ + 1442695040888963407) = s' at *
    obtain ⟨s0, s1⟩ : 0 ≤ s' ∧ s' ≤ 18446744073709551615 := by rw [← hs']; exact wrapU64 _
    generalize hW : World.setCell (World.setCell _ ⟨p, 1, none⟩ _) ⟨p, 2, none⟩ _ = W1
    have HN : Src p (k + 1) W1 ∧ w.grownBy W1 (some p) := by
      rw [← hW]
      exact ⟨Src.put (w := w.drewN _) HS.out _ _ (by omega) (by omega) s0 s1, grown_set (grown_set (grown_drewN _ _ _) _ _) _ _⟩
    obtain ⟨d0, d1, d2⟩ : W1.cell? ⟨p, 0, none⟩ = some (.slice (some ⟨b, off, none⟩) n c) ∧ W1.cell? ⟨p, 1, none⟩ = some (.int .i64 (a + 1)) ∧ W1.cell? ⟨p, 2, none⟩ = some (.int .u64 s') := by
      rw [← hW]
      exact put_cells (w := w.drewN _) c0 c1 c2 _ _
    have HN2 := Lib.hid HN
    have z1 := HN.2.size
    have hp1 : p < W1.heap.size := by omega
    clear HN hW c0 c1 c2 hs'
    go_quiet (fail)
    go_wp2
    go_returns
    exact ⟨⟨y, y0, y1, by simp⟩, HN2.out.1, grown_drewN_after HN2.out.2 _⟩
  · have hl : ¬ a + 1 ≤ n := by omega
    go_enter Try.func59, Try.ntmps59
    go_wp2
    go_quiet (fail)
    go_wp2
    generalize hs' : IntKind.u64.wrap (IntKind.u64.wrap _ + 1442695040888963407) = s' at *
    obtain ⟨s0, s1⟩ : 0 ≤ s' ∧ s' ≤ 18446744073709551615 := by rw [← hs']; exact wrapU64 _
    generalize hW : World.setCell (World.setCell _ ⟨p, 1, none⟩ _) ⟨p, 2, none⟩ _ = W1
    have HN : Src p (k + 1) W1 ∧ w.grownBy W1 (some p) := by
      rw [← hW]
      exact ⟨Src.put (w := w.drewN _) HS.out _ _ (by omega) (by omega) s0 s1, grown_set (grown_set (grown_drewN _ _ _) _ _) _ _⟩
    obtain ⟨d0, d1, d2⟩ : W1.cell? ⟨p, 0, none⟩ = some (.slice A n c) ∧ W1.cell? ⟨p, 1, none⟩ = some (.int .i64 (a + 1)) ∧ W1.cell? ⟨p, 2, none⟩ = some (.int .u64 s') := by
      rw [← hW]
      exact put_cells (w := w.drewN _) c0 c1 c2 _ _
    have HN2 := Lib.hid HN
    have z1 := HN.2.size
    have hp1 : p < W1.heap.size := by omega
    clear HN hW c0 c1 c2 hs'
    go_quiet (fail)
    go_wp2
    obtain ⟨b0, b1⟩ := band255 (x := s' / 1099511627776) (by omega) (by omega)
    go_returns
    exact ⟨⟨_, b0, b1, by simp⟩, HN2.out.1, grown_drewN_after HN2.out.2 _⟩
theorem grown_trans {a b c : World} {k : Option Nat} (h : a.grownBy b k) (h' : b.grownBy c k) : a.grownBy c k :=
  ⟨h'.os.trans h.os, h'.tape.trans h.tape, h'.output.trans h.output, Nat.le_trans h.size h'.size, fun j hj hne => (h'.block j (Nat.lt_of_lt_of_le hj h.size) hne).trans (h.block j hj hne)⟩
set_option maxHeartbeats 1000000 in
theorem pick_c (p k : Nat) (n : Int) (hk : k ≤ 900000000) (hn : n ≤ 1000000) (w : World) (h : Src p k w) : Calls Try.prog 58 #[.pointer (some ⟨p, 0, none⟩), .int .i64 n] w fun e w' => (∃ r : Int, 0 ≤ r ∧ (r = 0 ∨ r < n) ∧ e = .returned (.int .i64 r)) ∧ Src p (k + 2) w' ∧ w.grownBy w' (some p) := by
  have HS := Lib.hid h
  clear h
  by_cases h1 : n ≤ 1
  · go_enter Try.func58, Try.ntmps58
    go_wp2
    go_returns
    exact ⟨⟨0, by omega, .inl rfl, by simp⟩, HS.out.mono (by omega), World.grownBy.refl _ _⟩
  · have n0 : ¬ n = 0 := by omega
    by_cases h2 : 200 < n
    · go_enter Try.func58, Try.ntmps58
      go_wp2_with (go_at_call 59; (refine (next_c p k (by omega) _ HS.out).mono ?_); rintro e w1 ⟨⟨r, r0, r1, rfl⟩, hS1, hG1⟩; have HS1 := Lib.hid hS1; clear hS1)
      go_wp2_with (go_at_call 59; (refine (next_c p (k + 1) (by omega) _ HS1.out).mono ?_); rintro e w2 ⟨⟨r', r0', r1', rfl⟩, hS2, hG2⟩; have HS2 := Lib.hid hS2; clear hS2)
      have m0 := Int.emod_nonneg (r * 256 + r') n0
      have m1 := Int.emod_lt_of_pos (r * 256 + r') (show 0 < n by omega)
      go_returns
      exact ⟨⟨_, m0, .inr m1, by simp⟩, HS2.out, grown_trans hG1 hG2⟩
    · go_enter Try.func58, Try.ntmps58
      go_wp2_with (go_at_call 59; (refine (next_c p k (by omega) _ HS.out).mono ?_); rintro e w1 ⟨⟨r, r0, r1, rfl⟩, hS1, hG1⟩; have HS1 := Lib.hid hS1; clear hS1)
      have m0 := Int.emod_nonneg r n0
      have m1 := Int.emod_lt_of_pos r (show 0 < n by omega)
      go_returns
      exact ⟨⟨_, m0, .inr m1, by simp⟩, HS1.out.mono (by omega), hG1⟩
end Go.Proofs.Ytmmabkmcgffnpaa
