/- Texts of lists: both sides. -/
import Derived.Test.YthoapfdflffpkaaDoorTX
import Derived.Test.YthoapfdflffpkaaDoorF
import Derived.Shelf.Strconv.Itoa4
import Derived.Shelf.Strings.OnBuilder
import Derived.Shelf.Lay
import Derived.Ground.NamesProg
namespace Go.Proofs.YthoapfdflffpkaaDoor
open Go.ChangeShapes Go.WideShapes Go.ChangeAt Go.RowKit Go.Shelf
set_option linter.unusedVariables false
set_option linter.unusedSimpArgs false

/-- The text of the first k numbers. -/
def lstTo (xs : List Int) : Nat → List UInt8
  | 0 => []
  | k + 1 => (if k = 0 then [] else lstTo xs k ++ [44]) ++ Lib.itoa (nth xs k)
theorem itoa_len {n : Int} (h : I64 n) : (Lib.itoa n).length ≤ 21 := by
  obtain ⟨h0, h1⟩ := h
  unfold Lib.itoa
  split
  · have := decDigits_len 19 n.natAbs (by omega)
    simp
    omega
  · have := decDigits_len 19 n.toNat (by omega)
    omega
theorem lstTo_len {xs : List Int} (hv : ∀ k, k < xs.length → I64 (nth xs k)) : ∀ k, k ≤ xs.length → (lstTo xs k).length ≤ 22 * k
  | 0, _ => by simp [lstTo]
  | k + 1, h => by
    have h1 := lstTo_len hv k (by omega)
    have h2 := itoa_len (hv k (by omega))
    rw [lstTo]
    split <;> simp <;> omega
theorem strcat (a b : List UInt8) : (⟨a.toArray⟩ : ByteArray) ++ ⟨b.toArray⟩ = ⟨(a ++ b).toArray⟩ := by
  apply ByteArray.ext
  simp
set_option maxHeartbeats 1000000 in
theorem l01List_c (A : Option Addr) (c : Nat) (xs : List Int) (hn : xs.length ≤ 64) (h0 : 0 < xs.length) (hv : ∀ k, k < xs.length → I64 (nth xs k)) (w : World) (hr : RowI w A xs) : Calls Tryd.prog 64 #[.slice A xs.length c] w fun e w' => e = .returned (.string ⟨(lstTo xs xs.length).toArray⟩) ∧ Below w.heap.size w w' := by
  have i0 : ¬ (xs.length : Int) = 0 := by omega
  have i0' : ((xs.length : Int) == 0) = false := by rw [beq_eq_false_iff_ne]; omega
  have HLL := Lib.hid (lstTo_len hv)
  go_enter Tryd.func64, Tryd.ntmps64
  go_wp2
  go_loopw [3, 4] (fun v i wr => ∃ k : Nat, k ≤ xs.length ∧ i = .int .i64 k ∧ Hid (v = .string ⟨(lstTo xs k).toArray⟩) ∧ Below w.heap.size w wr) (fun _ i _ => xs.length - (intOf i).toNat)
  case atStart => exact ⟨0, by omega, rfl, Lib.hid rfl, Below.refl _ _⟩
  case round =>
    obtain ⟨k, hk, rfl, HV, hBr⟩ := hrel
    have hsr := hBr.size
    have hvv := HV.out
    by_cases hlt : k < xs.length
    · obtain ⟨b, off, rfl, hbb, c1⟩ := (hr.below hBr).at_ hlt
      have i1 : (k : Int) < xs.length := by omega
      have hI := hv k hlt
      have hil := itoa_len hI
      have hll := HLL.out k hk
      rcases Nat.eq_zero_or_pos k with hk0 | hk0
      · subst hk0
        subst hvv
        have HN := Lib.hid (show lstTo xs (0 + 1) = lstTo xs 0 ++ Lib.itoa (nth xs 0) by simp [lstTo])
        have c1' : wr.cell? ⟨b, off, none⟩ = some (.int .i64 (nth xs 0)) := c1
        have z1 : ¬ 9223372036854775807 < (lstTo xs 0).length + (Lib.itoa (nth xs 0)).length := by omega
        generalize lstTo xs 0 = L at *
        go_wp2_with (go_at_call 78; (refine (l01Dec_c _ hI _).mono ?_); rintro e w' ⟨rfl, hb'⟩)
        go_roundw
        case rel => exact ⟨0 + 1, by omega, by go_num, Lib.hid (by rw [HN.out, ← strcat]), hBr.trans (hb'.mono hsr)⟩
        case measure => simp [intOf] <;> omega
      · have k0 : (0 : Int) < k := by omega
        have HN := Lib.hid (show lstTo xs (k + 1) = (lstTo xs k ++ [44]) ++ Lib.itoa (nth xs k) by rw [lstTo, if_neg (by omega)])
        subst hvv
        have z1 : ¬ 9223372036854775807 < (lstTo xs k).length + 1 := by omega
        have z2 : ¬ 9223372036854775807 < (lstTo xs k).length + 1 + (Lib.itoa (nth xs k)).length := by omega
        generalize lstTo xs k = L at *
        go_wp2_with (go_at_call 78; (refine (l01Dec_c _ hI _).mono ?_); rintro e w' ⟨rfl, hb'⟩)
        go_roundw
        case rel => exact ⟨k + 1, by omega, by go_num, Lib.hid (by rw [HN.out, ← strcat, ← strcat]), hBr.trans (hb'.mono hsr)⟩
        case measure => simp [intOf] <;> omega
    · obtain rfl : k = xs.length := by omega
      subst hvv
      go_wp2
      go_returns
      exact ⟨by simp, hBr⟩
shelf_lay LaysM.n173 Nm 173 at Tryd as fmtLay
theorem formatInt_c (n : Int) (hI : I64 n) (w : World) (htab : Lib.TabIs Tryd.prog w "internal/strconv.uint64pow10" .u64 Lib.pow10Tab) : Calls Tryd.prog 80 #[.int .i64 n, .int .i64 10] w fun e w' => e = .returned (.string ⟨(Lib.itoa n).toArray⟩) ∧ Below w.heap.size w w' := by
  refine (Any.strconv_FormatInt_10 fmtLay n hI.1 hI.2 w htab).mono ?_
  rintro e w' ⟨rfl, k, os, rfl⟩
  exact ⟨rfl, rfl, rfl, rfl, by simp, fun j hj => by rw [Sort.heap_grow_old _ _ (by simpa using hj)]; rfl⟩
shelf_lay Lays.n156 Nm 156 at Tryd as joinLay
theorem joinExtra : Builder.Extra Tryd.prog joinLay_ren where
  sizeBuilder := by kernel_rfl
  liesBuilder := by kernel_rfl
  t5 := Tryd.underlying5
  a5 := Tryd.isAgg5
  z5 := Tryd.sizeOf5
  v5 := Tryd.zeroValue5
  infoByte := by kernel_rfl
  cellsByte := by kernel_rfl
  sizeByte := by kernel_rfl
  neB5 := by decide
theorem join_c (bk c : Nat) (xs : List ByteArray) (sep : ByteArray) (w : World) (hcells : ∀ (j : Nat) x, xs[j]? = some x → w.cell? ⟨bk, j, none⟩ = some (.string x)) (hbk : bk < w.heap.size) (hN : xs.length ≤ 140737488355328) (hcap : xs.length ≤ c) (hlen : (Lib.join (xs.map (·.data.toList)) sep.data.toList).length ≤ 140737488355328) : Calls Tryd.prog 69 #[.slice (some ⟨bk, 0, none⟩) xs.length c, .string sep] w fun e w' => e = .returned (.string ⟨(Lib.join (xs.map (·.data.toList)) sep.data.toList).toArray⟩) ∧ Below w.heap.size w w' :=
  Any.strings_Join joinLay joinExtra bk 0 c xs sep w (fun j x h => by rw [Nat.zero_add]; exact hcells j x h) hbk hN hcap hlen
end Go.Proofs.YthoapfdflffpkaaDoor
