/- Texts of lists: both sides. -/
import Derived.Test.YthoapfdflffpkaaDoorTX
import Derived.Test.YthoapfdflffpkaaDoorF
import Derived.Shelf.Strconv.Itoa4
import Derived.Shelf.Strings.OnBuilder
import Derived.Ground.NamesProg
namespace Go.Proofs.YthoapfdflffpkaaDoor
open Go.ChangeShapes Go.WideShapes Go.ChangeAt Go.RowKit Go.Shelf
set_option linter.unusedVariables false
set_option linter.unusedSimpArgs false

/-- The text of the first k numbers. -/
def lstTo (xs : List Int) : Nat → List UInt8
  | 0 => []
  | k + 1 => (if k = 0 then [] else lstTo xs k ++ [44]) ++ Lib.itoa (nth xs k)
theorem itoa_len {n : Int} (h : I64 n) : (Lib.itoa n).length ≤ 21 := by
  obtain ⟨h0, h1⟩ := h
  unfold Lib.itoa
  split
  · have := decDigits_len 19 n.natAbs (by omega)
    simp
    omega
  · have := decDigits_len 19 n.toNat (by omega)
    omega
theorem lstTo_len {xs : List Int} (hv : ∀ k, k < xs.length → I64 (nth xs k)) : ∀ k, k ≤ xs.length → (lstTo xs k).length ≤ 22 * k
  | 0, _ => by simp [lstTo]
  | k + 1, h => by
    have h1 := lstTo_len hv k (by omega)
    have h2 := itoa_len (hv k (by omega))
    rw [lstTo]
    split <;> simp <;> omega
theorem strcat (a b : List UInt8) : (⟨a.toArray⟩ : ByteArray) ++ ⟨b.toArray⟩ = ⟨(a ++ b).toArray⟩ := by
  apply ByteArray.ext
  simp
set_option maxHeartbeats 1000000 in
theorem l01List_c (A : Option Addr) (c : Nat) (xs : List Int) (hn : xs.length ≤ 64) (h0 : 0 < xs.length) (hv : ∀ k, k < xs.length → I64 (nth xs k)) (w : World) (hr : RowI w A xs) : Calls Tryd.prog 64 #[.slice A xs.length c] w fun e w' => e = .returned (.string ⟨(lstTo xs xs.length).toArray⟩) ∧ Below w.heap.size w w' := by
  have i0 : ¬ (xs.length : Int) = 0 := by omega
  have i0' : ((xs.length : Int) == 0) = false := by rw [beq_eq_false_iff_ne]; omega
  have HLL := Lib.hid (lstTo_len hv)
  go_enter Tryd.func64, Tryd.ntmps64
  go_wp2
  go_loopw [3, 4] (fun v i wr => ∃ k : Nat, k ≤ xs.length ∧ i = .int .i64 k ∧ Hid (v = .string ⟨(lstTo xs k).toArray⟩) ∧ Below w.heap.size w wr) (fun _ i _ => xs.length - (intOf i).toNat)
  case atStart => exact ⟨0, by omega, rfl, Lib.hid rfl, Below.refl _ _⟩
  case round =>
    obtain ⟨k, hk, rfl, HV, hBr⟩ := hrel
    have hsr := hBr.size
    have hvv := HV.out
    by_cases hlt : k < xs.length
    · obtain ⟨b, off, rfl, hbb, c1⟩ := (hr.below hBr).at_ hlt
      have i1 : (k : Int) < xs.length := by omega
      have hI := hv k hlt
      have hil := itoa_len hI
      have hll := HLL.out k hk
      rcases Nat.eq_zero_or_pos k with hk0 | hk0
      · subst hk0
        subst hvv
        have HN := Lib.hid (show lstTo xs (0 + 1) = lstTo xs 0 ++ Lib.itoa (nth xs 0) by simp [lstTo])
        have c1' : wr.cell? ⟨b, off, none⟩ = some (.int .i64 (nth xs 0)) := c1
        have z1 : ¬ 9223372036854775807 < (lstTo xs 0).length + (Lib.itoa (nth xs 0)).length := by omega
        generalize lstTo xs 0 = L at *
        go_wp2_with (go_at_call 78; (refine (l01Dec_c _ hI _).mono ?_); rintro e w' ⟨rfl, hb'⟩)
        go_roundw
        case rel => exact ⟨0 + 1, by omega, by go_num, Lib.hid (by rw [HN.out, ← strcat]), hBr.trans (hb'.mono hsr)⟩
        case measure => simp [intOf] <;> omega
      · have k0 : (0 : Int) < k := by omega
        have HN := Lib.hid (show lstTo xs (k + 1) = (lstTo xs k ++ [44]) ++ Lib.itoa (nth xs k) by rw [lstTo, if_neg (by omega)])
        subst hvv
        have z1 : ¬ 9223372036854775807 < (lstTo xs k).length + 1 := by omega
        have z2 : ¬ 9223372036854775807 < (lstTo xs k).length + 1 + (Lib.itoa (nth xs k)).length := by omega
        generalize lstTo xs k = L at *
        go_wp2_with (go_at_call 78; (refine (l01Dec_c _ hI _).mono ?_); rintro e w' ⟨rfl, hb'⟩)
        go_roundw
        case rel => exact ⟨k + 1, by omega, by go_num, Lib.hid (by rw [HN.out, ← strcat, ← strcat]), hBr.trans (hb'.mono hsr)⟩
        case measure => simp [intOf] <;> omega
    · obtain rfl : k = xs.length := by omega
      subst hvv
      go_wp2
      go_returns
      exact ⟨by simp, hBr⟩
def fmtLay_ren : Go.Shelf.Ren := ⟨fun | 173 => 80 | 246 => 89 | 283 => 95 | 284 => 96 | 285 => 97 | 286 => 98 | 129 => 108 | 317 => 107 | 318 => 109 | 319 => 110 | 320 => 111 | 337 => 122 | 338 => 123 | n => n, fun | 2 => 2 | 3 => 3 | 9 => 9 | 4 => 4 | 171 => 130 | 0 => 0 | 53 => 101 | 37 => 50 | 5 => 5 | 173 => 133 | 212 => 143 | 51 => 144 | 20 => 20 | 213 => 145 | 46 => 128 | 232 => 165 | 233 => 166 | n => n, fun | 17 => 0 | 18 => 4 | 19 => 5 | n => n⟩
theorem fmtLay : Go.Proofs.LaysM.n173 Tryd.prog fmtLay_ren := {
  mixed := by kernel_rfl,
  f129 := Tryd.func108.trans (congrArg some (by kernel_rfl)),
  f173 := Tryd.func80.trans (congrArg some (by kernel_rfl)),
  f246 := Tryd.func89.trans (congrArg some (by kernel_rfl)),
  f283 := Tryd.func95.trans (congrArg some (by kernel_rfl)),
  f284 := Tryd.func96.trans (congrArg some (by kernel_rfl)),
  f285 := Tryd.func97.trans (congrArg some (by kernel_rfl)),
  f286 := Tryd.func98.trans (congrArg some (by kernel_rfl)),
  f317 := Tryd.func107.trans (congrArg some (by kernel_rfl)),
  f318 := Tryd.func109.trans (congrArg some (by kernel_rfl)),
  f319 := Tryd.func110.trans (congrArg some (by kernel_rfl)),
  f320 := Tryd.func111.trans (congrArg some (by kernel_rfl)),
  f337 := Tryd.func122.trans (congrArg some (by kernel_rfl)),
  f338 := Tryd.func123.trans (congrArg some (by kernel_rfl)),
  t0 := Tryd.underlying0,
  a0 := Tryd.isAgg0,
  z0 := Tryd.sizeOf0,
  v0 := Tryd.zeroValue0,
  t2 := Tryd.underlying2,
  a2 := Tryd.isAgg2,
  z2 := Tryd.sizeOf2,
  v2 := Tryd.zeroValue2,
  t3 := Tryd.underlying3,
  a3 := Tryd.isAgg3,
  z3 := Tryd.sizeOf3,
  v3 := Tryd.zeroValue3,
  t4 := Tryd.underlying4,
  a4 := Tryd.isAgg4,
  z4 := Tryd.sizeOf4,
  v4 := Tryd.zeroValue4,
  t5 := Tryd.underlying5,
  a5 := Tryd.isAgg5,
  z5 := Tryd.sizeOf5,
  v5 := Tryd.zeroValue5,
  t9 := Tryd.underlying9,
  a9 := Tryd.isAgg9,
  z9 := Tryd.sizeOf9,
  v9 := Tryd.zeroValue9,
  t20 := Tryd.underlying20,
  a20 := Tryd.isAgg20,
  z20 := Tryd.sizeOf20,
  v20 := Tryd.zeroValue20,
  t37 := Tryd.underlying50,
  a37 := Tryd.isAgg50,
  z37 := Tryd.sizeOf50,
  v37 := Tryd.zeroValue50,
  t46 := Tryd.underlying128,
  a46 := Tryd.isAgg128,
  z46 := Tryd.sizeOf128,
  v46 := Tryd.zeroValue128,
  t51 := Tryd.underlying144,
  a51 := Tryd.isAgg144,
  z51 := Tryd.sizeOf144,
  v51 := Tryd.zeroValue144,
  t53 := Tryd.underlying101,
  a53 := Tryd.isAgg101,
  z53 := Tryd.sizeOf101,
  v53 := Tryd.zeroValue101,
  t171 := Tryd.underlying130,
  a171 := Tryd.isAgg130,
  z171 := Tryd.sizeOf130,
  v171 := Tryd.zeroValue130,
  t173 := Tryd.underlying133,
  a173 := Tryd.isAgg133,
  z173 := Tryd.sizeOf133,
  v173 := Tryd.zeroValue133,
  t212 := Tryd.underlying143,
  a212 := Tryd.isAgg143,
  z212 := Tryd.sizeOf143,
  v212 := Tryd.zeroValue143,
  t213 := Tryd.underlying145,
  a213 := Tryd.isAgg145,
  z213 := Tryd.sizeOf145,
  t232 := Tryd.underlying165,
  a232 := Tryd.isAgg165,
  z232 := Tryd.sizeOf165,
  v232 := Tryd.zeroValue165,
  t233 := Tryd.underlying166,
  a233 := Tryd.isAgg166,
  z233 := Tryd.sizeOf166,
  v233 := Tryd.zeroValue166,
  g17 := by kernel_rfl,
  g18 := by kernel_rfl,
  g19 := by kernel_rfl,
  i0 := by kernel_rfl,
  i2 := by kernel_rfl,
  i3 := by kernel_rfl,
  i4 := by kernel_rfl,
  i5 := by kernel_rfl,
  i9 := by kernel_rfl,
  i20 := by kernel_rfl,
  i37 := by kernel_rfl,
  i46 := by kernel_rfl,
  i51 := by kernel_rfl,
  i53 := by kernel_rfl,
  i171 := by kernel_rfl,
  i173 := by kernel_rfl,
  i212 := by kernel_rfl,
  i232 := by kernel_rfl,
  i233 := by kernel_rfl,
  m17 := by kernel_rfl,
  m18 := by kernel_rfl,
  m19 := by kernel_rfl
}

theorem formatInt_c (n : Int) (hI : I64 n) (w : World) (htab : Lib.TabIs Tryd.prog w "internal/strconv.uint64pow10" .u64 Lib.pow10Tab) : Calls Tryd.prog 80 #[.int .i64 n, .int .i64 10] w fun e w' => e = .returned (.string ⟨(Lib.itoa n).toArray⟩) ∧ Below w.heap.size w w' := by
  refine (Any.strconv_FormatInt_10 fmtLay n hI.1 hI.2 w htab).mono ?_
  rintro e w' ⟨rfl, k, os, rfl⟩
  exact ⟨rfl, rfl, rfl, rfl, by simp, fun j hj => by rw [Sort.heap_grow_old _ _ (by simpa using hj)]; rfl⟩
def joinLay_ren : Go.Shelf.Ren := ⟨fun | 156 => 69 | 165 => 81 | 166 => 82 | 169 => 83 | 240 => 90 | 241 => 91 | 276 => 99 | 277 => 100 | n => n, fun | 31 => 91 | 9 => 9 | 3 => 3 | 4 => 4 | 0 => 0 | 20 => 20 | 72 => 112 | 76 => 116 | 70 => 110 | 37 => 50 | 75 => 115 | 127 => 123 | 164 => 135 | 5 => 5 | 80 => 118 | n => n, fun | n => n⟩
theorem joinLay : Go.Proofs.Lays.n156 Tryd.prog joinLay_ren := {
  mixed := by kernel_rfl,
  f156 := Tryd.func69.trans (congrArg some (by kernel_rfl)),
  f165 := Tryd.func81.trans (congrArg some (by kernel_rfl)),
  f166 := Tryd.func82.trans (congrArg some (by kernel_rfl)),
  f169 := Tryd.func83.trans (congrArg some (by kernel_rfl)),
  f240 := Tryd.func90.trans (congrArg some (by kernel_rfl)),
  f241 := Tryd.func91.trans (congrArg some (by kernel_rfl)),
  f276 := Tryd.func99.trans (congrArg some (by kernel_rfl)),
  f277 := Tryd.func100.trans (congrArg some (by kernel_rfl)),
  t0 := Tryd.underlying0,
  a0 := Tryd.isAgg0,
  z0 := Tryd.sizeOf0,
  v0 := Tryd.zeroValue0,
  t3 := Tryd.underlying3,
  a3 := Tryd.isAgg3,
  z3 := Tryd.sizeOf3,
  v3 := Tryd.zeroValue3,
  t4 := Tryd.underlying4,
  a4 := Tryd.isAgg4,
  z4 := Tryd.sizeOf4,
  v4 := Tryd.zeroValue4,
  t9 := Tryd.underlying9,
  a9 := Tryd.isAgg9,
  z9 := Tryd.sizeOf9,
  v9 := Tryd.zeroValue9,
  t20 := Tryd.underlying20,
  a20 := Tryd.isAgg20,
  z20 := Tryd.sizeOf20,
  v20 := Tryd.zeroValue20,
  t31 := Tryd.underlying91,
  a31 := Tryd.isAgg91,
  z31 := Tryd.sizeOf91,
  v31 := Tryd.zeroValue91,
  t37 := Tryd.underlying50,
  a37 := Tryd.isAgg50,
  z37 := Tryd.sizeOf50,
  v37 := Tryd.zeroValue50,
  t70 := Tryd.underlying110,
  a70 := Tryd.isAgg110,
  z70 := Tryd.sizeOf110,
  v70 := Tryd.zeroValue110,
  t72 := Tryd.underlying112,
  a72 := Tryd.isAgg112,
  z72 := Tryd.sizeOf112,
  v72 := Tryd.zeroValue112,
  t75 := Tryd.underlying115,
  a75 := Tryd.isAgg115,
  z75 := Tryd.sizeOf115,
  v75 := Tryd.zeroValue115,
  t76 := Tryd.underlying116,
  a76 := Tryd.isAgg116,
  z76 := Tryd.sizeOf116,
  v76 := Tryd.zeroValue116,
  t127 := Tryd.underlying123,
  a127 := Tryd.isAgg123,
  z127 := Tryd.sizeOf123,
  v127 := Tryd.zeroValue123,
  t164 := Tryd.underlying135,
  a164 := Tryd.isAgg135,
  z164 := Tryd.sizeOf135,
  v164 := Tryd.zeroValue135
}

theorem joinExtra : Builder.Extra Tryd.prog joinLay_ren where
  sizeBuilder := by kernel_rfl
  liesBuilder := by kernel_rfl
  t5 := Tryd.underlying5
  a5 := Tryd.isAgg5
  z5 := Tryd.sizeOf5
  v5 := Tryd.zeroValue5
  infoByte := by kernel_rfl
  cellsByte := by kernel_rfl
  sizeByte := by kernel_rfl
  neB5 := by decide
theorem join_c (bk c : Nat) (xs : List ByteArray) (sep : ByteArray) (w : World) (hcells : ∀ (j : Nat) x, xs[j]? = some x → w.cell? ⟨bk, j, none⟩ = some (.string x)) (hbk : bk < w.heap.size) (hN : xs.length ≤ 140737488355328) (hcap : xs.length ≤ c) (hlen : (Lib.join (xs.map (·.data.toList)) sep.data.toList).length ≤ 140737488355328) : Calls Tryd.prog 69 #[.slice (some ⟨bk, 0, none⟩) xs.length c, .string sep] w fun e w' => e = .returned (.string ⟨(Lib.join (xs.map (·.data.toList)) sep.data.toList).toArray⟩) ∧ Below w.heap.size w w' :=
  Any.strings_Join joinLay joinExtra bk 0 c xs sep w (fun j x h => by rw [Nat.zero_add]; exact hcells j x h) hbk hN hcap hlen
end Go.Proofs.YthoapfdflffpkaaDoor
