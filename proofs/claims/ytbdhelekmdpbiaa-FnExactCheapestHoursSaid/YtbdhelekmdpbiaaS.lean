/- Slices of numbers: how they lie in memory; the laws' copies, comparisons and marks. -/
import Derived.Test.YtbdhelekmdpbiaaB
import Derived.Laws.MakeOwn
import Derived.Laws.NewBlocks
namespace Go.Proofs.Ytbdhelekmdpbiaa
open Go.ChangeShapes Go.WideShapes Go.ChangeAt Go.RowKit
set_option linter.unusedVariables false
set_option linter.unusedSimpArgs false

/-- The number at place i. -/
def nth (xs : List Int) (i : Nat) : Int := xs.getD i 0
theorem nth_eq {xs : List Int} {i : Nat} (h : i < xs.length) : xs[i]? = some (nth xs i) := by
  simp [nth, h]
theorem nth_mem {xs : List Int} {i : Nat} (h : i < xs.length) : nth xs i ∈ xs := List.mem_of_getElem? (nth_eq h)
/-- The slice at the address A holds the numbers xs. -/
def RowI (w : World) (A : Option Addr) (xs : List Int) : Prop :=
  0 < xs.length → ∃ b off, A = some ⟨b, off, none⟩ ∧ b < w.heap.size ∧ ∀ i, i < xs.length → w.cell? ⟨b, off + i, none⟩ = some (.int .i64 (nth xs i))
theorem RowI.at_ {w : World} {A : Option Addr} {xs : List Int} (h : RowI w A xs) {k : Nat} (hk : k < xs.length) : ∃ b off, A = some ⟨b, off, none⟩ ∧ b < w.heap.size ∧ w.cell? ⟨b, off + k, none⟩ = some (.int .i64 (nth xs k)) := by
  obtain ⟨b, off, rfl, hb, hc⟩ := h (by omega)
  exact ⟨b, off, rfl, hb, hc k hk⟩
theorem RowI.below {w w' : World} {A : Option Addr} {xs : List Int} (h : RowI w A xs) (hb : Below w.heap.size w w') : RowI w' A xs := fun hn => by
  obtain ⟨b, off, rfl, hlt, hc⟩ := h hn
  exact ⟨b, off, rfl, Nat.lt_of_lt_of_le hlt hb.size, fun i hi => (hb.cell (p := ⟨b, off + i, none⟩) hlt).trans (hc i hi)⟩
theorem RowI.drewN {w : World} {A : Option Addr} {xs : List Int} (h : RowI w A xs) (n : Nat) : RowI (w.drewN n) A xs := h
theorem RowI.drew {w : World} {A : Option Addr} {xs : List Int} (h : RowI w A xs) : RowI w.drew A xs := h
theorem RowI.alloc {w : World} {A : Option Addr} {xs : List Int} (h : RowI w A xs) (o : Obj) : RowI (w.alloc o) A xs := h.below ((Below.refl _ _).alloc (Nat.le_refl _) o)
/-- The numbers as cells. -/
def ints (xs : List Int) : Array Value := (xs.map (Value.int .i64)).toArray
theorem ints_at {xs : List Int} {i : Nat} (h : i < xs.length) : (ints xs)[i]? = some (.int .i64 (nth xs i)) := by
  simp [ints, nth, h]
theorem RowI.new (w : World) (t : TypeId) (xs : List Int) : RowI (w.alloc (.cells (ints xs) t)) (some ⟨w.heap.size, 0, none⟩) xs := fun hn =>
  ⟨w.heap.size, 0, rfl, by simp, fun i hi => by simp [ints_at hi]⟩
theorem RowI.new_at {w : World} {t : TypeId} {xs : List Int} {b : Nat} (h : w.heap.size = b) : RowI (w.alloc (.cells (ints xs) t)) (some ⟨b, 0, none⟩) xs := by
  subst h
  exact RowI.new w t xs

theorem run_make_rowN {P : Program} (t e : TypeId) (i : TypeInfo) (z : Value) (ht : P.underlying t = some (.slice e)) (hi : P.info? e = some i) (hz : i.zero = some z)
    (kl kc : IntKind) (n c : Nat) (hnc : n ≤ c) (hbytes : i.bytes * c ≤ 281474976710656) (h63 : c ≤ 9223372036854775807) (w : World) :
    (Instr.makeSlice t (.int kl (n : Int)) (.int kc (c : Int))).run P w = .ok (.slice (some ⟨w.heap.size, 0, none⟩) n c) (w.alloc (.cells (madeCells z.cells (c * i.size)) e)) := by
  have hb : (i.bytes : Int) * (c : Int) ≤ 281474976710656 := by
    have h : ((i.bytes * c : Nat) : Int) ≤ 281474976710656 := by omega
    rwa [Int.natCast_mul] at h
  have hr := run_make (P := P) w t e i z ht hi hz kl kc n c (by omega) (by omega) hb (by omega)
  simp only [Int.toNat_natCast] at hr
  exact hr

theorem ints_get (xs : List Int) (i : Nat) : (ints xs)[i]? = xs[i]?.map (Value.int .i64) := by
  simp [ints]
/-- The first k of xs, then zeros. -/
def mixL (xs : List Int) (k : Nat) : List Int := xs.take k ++ List.replicate (xs.length - k) 0
def mixA (xs : List Int) (k : Nat) : Array Value := ints (mixL xs k)
theorem mixL_get (xs : List Int) (k i : Nat) (hk : k ≤ xs.length) : (mixL xs k)[i]? = if i < k then xs[i]? else if i < xs.length then some 0 else none := by
  unfold mixL
  split
  · rw [List.getElem?_append_left (by rw [List.length_take]; omega), List.getElem?_take, if_pos (by assumption)]
  · rw [List.getElem?_append_right (by rw [List.length_take]; omega), List.getElem?_replicate, List.length_take]
    by_cases h : i < xs.length
    · rw [if_pos (by omega), if_pos h]
    · rw [if_neg (by omega), if_neg h]
theorem mixA_at (xs : List Int) (k : Nat) (hk : k < xs.length) : (mixA xs k)[k]? = some (.int .i64 0) := by
  rw [mixA, ints_get, mixL_get xs k k (by omega), if_neg (by omega), if_pos hk]
  rfl
theorem mixA_set (xs : List Int) (k : Nat) (hk : k < xs.length) : (mixA xs k).setIfInBounds k (.int .i64 (nth xs k)) = mixA xs (k + 1) := by
  apply Array.ext_getElem?
  intro i
  rw [Array.getElem?_setIfInBounds]
  have hsz : (mixA xs k).size = xs.length := by
    simp only [mixA, ints, mixL, List.size_toArray, List.length_map, List.length_append, List.length_take, List.length_replicate]
    omega
  by_cases h : k = i
  · subst h
    rw [if_pos rfl, if_pos (by omega), mixA, ints_get, mixL_get xs (k + 1) k (by omega), if_pos (by omega), nth_eq hk]
    rfl
  · rw [if_neg h, mixA, mixA, ints_get, ints_get, mixL_get xs k i (by omega), mixL_get xs (k + 1) i (by omega)]
    by_cases h1 : i < k
    · rw [if_pos h1, if_pos (by omega)]
    · rw [if_neg h1, if_neg (show ¬ i < k + 1 by omega)]
theorem mixA_zero (xs : List Int) : madeCells (Value.int .i64 0).cells (xs.length * 1) = mixA xs 0 := by
  rw [Nat.mul_one]
  apply Array.ext_getElem?
  intro i
  rw [mixA, ints_get, mixL_get xs 0 i (by omega), if_neg (by omega)]
  by_cases h : i < xs.length
  · rw [if_pos h]
    simp [madeCells, Value.cells, h, Nat.mod_one]
    done
  · rw [if_neg h]
    simp [madeCells, h]
theorem mixA_full (xs : List Int) : mixA xs xs.length = ints xs := by
  simp [mixA, mixL]
theorem toInt64S_c (A : Option Addr) (c : Nat) (xs : List Int) (hn : xs.length ≤ 1048576) (w : World) (hr : RowI w A xs) : Calls Try.prog 5 #[.slice A xs.length c] w fun e w' => e = .returned (.slice (some ⟨w.heap.size, 0, none⟩) xs.length xs.length) ∧ w' = w.alloc (.cells (ints xs) 2) := by
  obtain ⟨i, hi, hz, hsz, hby⟩ := info_parts (show (Try.prog.info? 2).map (fun i => (i.zero, i.size, i.bytes)) = some (some (.int .i64 0), 1, 8) by kernel_rfl)
  have hmk : ∀ W : World, (Instr.makeSlice 22 (.int .i64 (xs.length : Int)) (.int .i64 (xs.length : Int))).run Try.prog W = .ok (.slice (some ⟨W.heap.size, 0, none⟩) xs.length xs.length) (W.alloc (.cells (mixA xs 0) 2)) := fun W => by
    rw [run_make_rowN (P := Try.prog) 22 2 i (.int .i64 0) Try.underlying22 hi hz .i64 .i64 xs.length xs.length (Nat.le_refl _) (by rw [hby]; omega) (by omega) W, hsz, mixA_zero]
  clear hi hz hsz hby
  go_enter Try.func5, Try.ntmps5
  go_wp2
  clear hmk
  go_loopw [4] (fun v wr => ∃ k : Nat, k ≤ xs.length ∧ v = .int .i64 k ∧ wr = w.alloc (.cells (mixA xs k) 2)) (fun v _ => xs.length - (intOf v).toNat)
  case atStart => exact ⟨0, by omega, rfl, rfl⟩
  case round =>
    obtain ⟨k, hk, rfl, rfl⟩ := hrel
    by_cases hlt : k < xs.length
    · obtain ⟨b, off, rfl, hb, hc⟩ := hr.at_ hlt
      have hm := mixA_at xs k hlt
      have HS := Lib.hid (mixA_set xs k hlt)
      clear hr
      go_wp2
      go_roundw
      case rel => exact ⟨k + 1, by omega, by go_num, by rw [HS.out]⟩
      case measure => simp [intOf]; omega
    · go_wp2
      go_ret
      obtain rfl : k = xs.length := by omega
      exact ⟨rfl, by rw [mixA_full]⟩
theorem eqInt64S_c (A B : Option Addr) (c d : Nat) (xs : List Int) (hn : xs.length ≤ 1048576) (w : World) (ha : RowI w A xs) (hb : RowI w B xs) : Calls Try.prog 7 #[.slice A xs.length c, .slice B xs.length d] w fun e w' => e = .returned (.bool true) ∧ ∃ n, w' = w.drewN n := by
  go_enter Try.func7, Try.ntmps7
  go_wp2
  go_loopw [5] (fun v wr => ∃ k : Nat, k ≤ xs.length ∧ v = .int .i64 k ∧ ∃ n, wr = w.drewN n) (fun v _ => xs.length - (intOf v).toNat)
  case atStart => exact ⟨0, by omega, rfl, 0, rfl⟩
  case round =>
    obtain ⟨k, hk, rfl, n, rfl⟩ := hrel
    by_cases hlt : k < xs.length
    · obtain ⟨b, off, rfl, hb1, hc⟩ := ha.at_ hlt
      obtain ⟨b', off', rfl, hb1', hc'⟩ := hb.at_ hlt
      have hi : (k : Int) < xs.length := by omega
      clear ha hb
      go_wp2
      go_quiet (fail)
      go_wp2
      go_roundw
      case rel => exact ⟨k + 1, by omega, by go_num, _, rfl⟩
      case measure => simp [intOf]; omega
    · go_wp2
      go_ret
      exact ⟨rfl, _, rfl⟩
theorem lt_of_cell {w : World} {b o : Nat} {v : Value} (h : w.cell? ⟨b, o, none⟩ = some v) : b < w.heap.size := by
  rcases Nat.lt_or_ge b w.heap.size with hlt | hge
  · exact hlt
  · simp [World.cell?, Array.getElem?_eq_none hge] at h
/-- What a law's argument that is a slice of numbers gives. -/
def IntArg (W : World) (A : Option Addr) (n : Nat) (z : List Int) : Prop := z.length = n ∧ n ≤ 9223372036854775807 ∧ RowI W A z ∧ ∀ x ∈ z, I64 x
theorem intRow_of_trod {H : Type} {enc : TypeId × Value → H} {P : Program} {W : World} {t e : TypeId} {A : Option Addr} {n c : Nat} {d : DataW H} {p : List MemPlace} (ht : P.underlying t = some (.slice e)) (he : P.underlying e = some (.int .i64)) (hC : P.cellsOf e = 1)
    (h : DataW.Trod enc P W 0 (fun _ => true) true t (.slice A n c) d p) : ∃ z, IntArg W A n z := by
  obtain ⟨fuel, hf⟩ := h
  rcases open_ints ht he hC hf with ⟨hcs, _⟩ | ⟨x, l, cc, zs, hcs, _, hl, hm, hz, _, hcell, hwz⟩
  · simp [Value.cells] at hcs
    obtain ⟨rfl, rfl, rfl⟩ := hcs
    exact ⟨[], rfl, by omega, fun h => by simp at h, by simp⟩
  · simp [Value.cells] at hcs
    obtain ⟨rfl, rfl, rfl⟩ := hcs
    unfold maxLen at hm
    have hlen : zs.length = c := by simpa using hz
    refine ⟨zs.take n, by rw [List.length_take]; omega, by omega, fun hn => ?_, fun x hx => i64_of (hwz x (List.mem_of_mem_take hx))⟩
    rw [List.length_take] at hn
    obtain ⟨b, off, spot⟩ := x
    have hc0 := hcell 0 (by omega)
    have hspot : spot = none := by simpa [Addr.add] using World.cell?_spot hc0
    subst hspot
    have hc' : ∀ i, i < zs.length → W.cell? ⟨b, off + i, none⟩ = some (.int .i64 (zs.getD i 0)) := fun i hi => by
      have := hcell i hi
      unfold Addr.add at this
      by_cases h0 : i = 0
      · subst h0; simpa using this
      · simpa [h0] using this
    refine ⟨b, off, rfl, lt_of_cell (hc' 0 (by omega)), fun i hi => ?_⟩
    rw [List.length_take] at hi
    rw [hc' i (by omega)]
    simp only [nth, List.getD_eq_getElem?_getD, List.getElem?_take]
    rw [if_pos (by omega)]
end Go.Proofs.Ytbdhelekmdpbiaa
