/- FnLimits. -/
import Derived.Test.YteddchnmjppdeaaD6
import Derived.Test.YteddchnmjppdeaaDP
namespace Go.Proofs.Yteddchnmjppdeaa
open Go.ChangeShapes Go.WideShapes Go.ChangeAt Go.RowKit
set_option linter.unusedVariables false
set_option linter.unusedSimpArgs false

/-- What a law's argument that is a slice of bytes gives. -/
def ByteArg (W : World) (A : Option Addr) (n : Nat) : Prop := n ≤ 9223372036854775807 ∧ RowB W A n
theorem byteRow_of_trod {H : Type} {enc : TypeId × Value → H} {P : Program} {W : World} {t e : TypeId} {A : Option Addr} {n c : Nat} {d : DataW H} {p : List MemPlace} (ht : P.underlying t = some (.slice e)) (he : P.underlying e = some (.int .u8)) (hC : P.cellsOf e = 1)
    (h : DataW.Trod enc P W 0 (fun _ => true) true t (.slice A n c) d p) : ByteArg W A n := by
  obtain ⟨fuel, hf⟩ := h
  rcases open_ints ht he hC hf with ⟨hcs, _⟩ | ⟨x, l, cc, zs, hcs, _, hl, hm, hz, _, hcell, hwz⟩
  · simp [Value.cells] at hcs
    obtain ⟨rfl, rfl, rfl⟩ := hcs
    exact ⟨by omega, fun h => by omega⟩
  · simp [Value.cells] at hcs
    obtain ⟨rfl, rfl, rfl⟩ := hcs
    unfold maxLen at hm
    have hlen : zs.length = c := by simpa using hz
    refine ⟨by omega, fun hn => ?_⟩
    obtain ⟨b, off, spot⟩ := x
    have hc0 := hcell 0 (by omega)
    have hspot : spot = none := by simpa [Addr.add] using World.cell?_spot hc0
    subst hspot
    have hc' : ∀ i, i < zs.length → W.cell? ⟨b, off + i, none⟩ = some (.int .u8 (zs.getD i 0)) := fun i hi => by
      have := hcell i hi
      unfold Addr.add at this
      by_cases h0 : i = 0
      · subst h0; simpa using this
      · simpa [h0] using this
    refine ⟨b, off, rfl, lt_of_cell (hc' 0 (by omega)), fun i hi => ⟨_, ?_, ?_, hc' i (by omega)⟩⟩
    all_goals
      have hm : zs.getD i 0 ∈ zs := by
        rw [List.getD_eq_getElem?_getD, List.getElem?_eq_getElem (by omega), Option.getD_some]
        exact List.getElem_mem _
      have := bounds_u8 (hwz _ hm)
      omega
theorem RowB.belowB {w w' : World} {A : Option Addr} {n B : Nat} (h : RowB w A n) (hb : Below B w w') (hB : ∀ b off, A = some ⟨b, off, none⟩ → b < B) : RowB w' A n := fun hn => by
  obtain ⟨b, off, e, hl, hc⟩ := h hn
  exact ⟨b, off, e, Nat.lt_of_lt_of_le hl hb.size, fun i hi => by
    obtain ⟨y, y0, y1, hy⟩ := hc i hi
    exact ⟨y, y0, y1, (hb.cell (p := ⟨b, off + i, none⟩) (hB b off e)).trans hy⟩⟩
theorem Box3.below {b : Nat} {w w' : World} {r d x : Int} (h : Box3 b w r d x) (hb : Below w.heap.size w w') : Box3 b w' r d x := by
  obtain ⟨h0, c0, c1, c2, hf⟩ := h
  exact ⟨Nat.lt_of_lt_of_le h0 hb.size, (hb.cell (p := ⟨b, 0, none⟩) h0).trans c0, (hb.cell (p := ⟨b, 1, none⟩) h0).trans c1, (hb.cell (p := ⟨b, 2, none⟩) h0).trans c2, fun j => (hb.frozen (p := ⟨b, j, none⟩) h0).trans (hf j)⟩
theorem b10Long_n {n : Nat} (h : n ≤ 1048576) (A : Option Addr) (c : Nat) (w : World) : Calls Try.prog 15 #[.slice A n c] w fun e w' => e = .returned (.bool false) ∧ w = w' := by
  have := b10Long_c A n c w
  rw [show decide ((1048576 : Int) < n) = false by simp; omega] at this
  exact this
theorem b10Long_y {n : Nat} (h : 1048576 < n) (A : Option Addr) (c : Nat) (w : World) : Calls Try.prog 15 #[.slice A n c] w fun e w' => e = .returned (.bool true) ∧ w = w' := by
  have := b10Long_c A n c w
  rw [show decide ((1048576 : Int) < n) = true by simp; omega] at this
  exact this
theorem implSA_v {A : Option Addr} {n c : Nat} {z : List Int} {r d x v a q : Int} (h : fAllow z n r d x v = (a, q)) (hz : z.length = n * 3) (hn : n ≤ 1048576) (w : World) (hr : RowI w A z) : Calls Try.prog 22 #[.slice A n c, .agg #[.int .i64 r, .int .i64 d, .int .i64 x], .int .i64 v] w fun e w' => e = .returned (.tuple #[.int .i64 a, .int .i64 q]) ∧ Below w.heap.size w w' := by
  have := implSpeedAllowed_c A n c z r d x v hz hn w hr
  rw [h] at this
  exact this
theorem specSA_v {A : Option Addr} {n c : Nat} {z : List Int} {r d x v a q : Int} (h : fAllow z n r d x v = (a, q)) (hz : z.length = n * 3) (hn : n ≤ 1048576) (w : World) (hr : RowI w A z) : Calls Try.prog 26 #[.slice A n c, .agg #[.int .i64 r, .int .i64 d, .int .i64 x], .int .i64 v] w fun e w' => e = .returned (.tuple #[.int .i64 a, .int .i64 q]) ∧ Below w.heap.size w w' := by
  have := specSpeedAllowed_c A n c z r d x v hz hn w hr
  rw [h] at this
  exact this
theorem implIL_v {A : Option Addr} {n c : Nat} {z xs : List Int} {q : Int} (h : fIdle z n = (xs, q)) (hz : z.length = n * 3) (hn : n ≤ 1048576) (w : World) (hr : RowI w A z) : Calls Try.prog 23 #[.slice A n c] w fun e w' => ∃ v, e = .returned (.tuple #[v, .int .i64 q]) ∧ OwnI 2 w' w.heap.size v xs ∧ Below w.heap.size w w' := by
  have := implIdleLimits_c A n c z hz hn w hr
  rw [h] at this
  exact this
theorem implHH_v {A : Option Addr} {n c : Nat} {z xs : List Int} {a q : Int} (h : fHeat z n a = (xs, q)) (hz : z.length = n * 3) (hn : n ≤ 1048576) (hcap : n ≤ c) (w : World) (hr : RowI w A z) : Calls Try.prog 28 #[.slice A n c, .int .i64 a] w fun e w' => ∃ v, e = .returned (.tuple #[v, .int .i64 q]) ∧ OwnI 2 w' w.heap.size v xs ∧ Below w.heap.size w w' := by
  have := implHeaterHours_c A n c z a hz hn hcap w hr
  rw [h] at this
  exact this
theorem b10Has_v {A : Option Addr} {m c : Nat} {xs : List Int} {x : Int} {b : Bool} (hm : xs.length = m) (h : (xs.any (fun y => decide (y = x))) = b) (hn : m ≤ 1048576) (w : World) (hr : RowI w A xs) : Calls Try.prog 25 #[.slice A m c, .int .i64 x] w fun e w' => e = .returned (.bool b) ∧ w = w' := by
  subst hm
  have := b10Has_c A c xs x hn w hr
  rw [h] at this
  exact this
theorem b10Rises_v {A : Option Addr} {m c : Nat} {p : Nat → Bool} {xs : List Int} {n : Nat} (hx : xs = pickTo p n) (hm : xs.length = m) (hn : n ≤ 1048576) (w : World) (hr : RowI w A xs) : Calls Try.prog 24 #[.slice A m c, .int .i64 n] w fun e w' => e = .returned (.bool true) ∧ ∃ q, w' = w.drewN q := by
  subst hm
  subst hx
  have h := pickTo_nth p n
  have hl := pickTo_len p n
  exact b10Rises_c A c _ n (by omega) h.1 h.2 w hr
end Go.Proofs.Yteddchnmjppdeaa
