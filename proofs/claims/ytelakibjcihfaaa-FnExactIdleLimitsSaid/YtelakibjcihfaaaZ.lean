/- Lists of hours and of limits: three numbers each, in one flat list. The laws' copies and comparisons; validity. -/
import Derived.Test.YtelakibjcihfaaaW
import Derived.Test.YtelakibjcihfaaaS
import Derived.Test.YtelakibjcihfaaaSS
namespace Go.Proofs.Ytelakibjcihfaaa
open Go.ChangeShapes Go.WideShapes Go.ChangeAt Go.RowKit
set_option linter.unusedVariables false
set_option linter.unusedSimpArgs false

theorem nth_mixL {z : List Int} {k i : Nat} (hk : k ≤ z.length) (hi : i < z.length) : nth (mixL z k) i = if i < k then nth z i else 0 := by
  have h := mixL_get z k i hk
  unfold nth
  rw [List.getD_eq_getElem?_getD, h]
  by_cases g : i < k
  · rw [if_pos g, if_pos g, List.getD_eq_getElem?_getD]
  · rw [if_neg g, if_neg g, if_pos hi]
    rfl
theorem mixL_length {z : List Int} {k : Nat} (hk : k ≤ z.length) : (mixL z k).length = z.length := by
  unfold mixL
  rw [List.length_append, List.length_take, List.length_replicate]
  omega
/-- A row in a block of its own, which may be written: the first k numbers of z, then zeros. -/
def MixAt (b : Nat) (z : List Int) (k : Nat) (w : World) : Prop := b < w.heap.size ∧ ∀ i, i < z.length → w.cell? ⟨b, i, none⟩ = some (.int .i64 (nth (mixL z k) i)) ∧ w.frozen? ⟨b, i, none⟩ = false
theorem MixAt.below {b : Nat} {z : List Int} {k : Nat} {w w' : World} (h : MixAt b z k w) (hb : Below w.heap.size w w') : MixAt b z k w' :=
  ⟨Nat.lt_of_lt_of_le h.1 hb.size, fun i hi => ⟨(hb.cell (p := ⟨b, i, none⟩) h.1).trans (h.2 i hi).1, (hb.frozen (p := ⟨b, i, none⟩) h.1).trans (h.2 i hi).2⟩⟩
theorem MixAt.new (w : World) (t : TypeId) (z : List Int) : MixAt w.heap.size z 0 (w.alloc (.cells (mixA z 0) t)) :=
  ⟨by simp, fun i hi => ⟨by
    have h : (mixA z 0)[i]? = some (.int .i64 (nth (mixL z 0) i)) := ints_at (by rw [mixL_length (by omega)]; exact hi)
    simp [h], by simp⟩⟩
theorem MixAt.row {b : Nat} {z : List Int} {w : World} (h : MixAt b z z.length w) : RowI w (some ⟨b, 0, none⟩) z := fun _ =>
  ⟨b, 0, rfl, h.1, fun i hi => by
    have := (h.2 i hi).1
    rw [nth_mixL (Nat.le_refl _) hi, if_pos hi] at this
    simpa using this⟩
theorem MixAt.set1 {b : Nat} {z : List Int} {k : Nat} {w : World} (h : MixAt b z k w) (hk : k < z.length) : MixAt b z (k + 1) (w.setCell ⟨b, k, none⟩ (.int .i64 (nth z k))) := by
  obtain ⟨h1, h2⟩ := h
  refine ⟨by simpa using h1, fun i hi => ?_⟩
  obtain ⟨c1, c2⟩ := h2 i hi
  obtain ⟨d1, d2⟩ := h2 k hk
  refine ⟨?_, by simpa using c2⟩
  by_cases e : i = k
  · subst e
    rw [nth_mixL (by omega) hi, if_pos (by omega)]
    simp [d1, go_sem]
  · rw [nth_mixL (by omega) hi]
    rw [nth_mixL (by omega) hi] at c1
    have hne : (⟨b, k, none⟩ : Addr) ≠ ⟨b, i, none⟩ := by
      intro q
      injection q with _ q2 _
      exact e q2.symm
    rw [World.cell?_setCell_other _ _ _ _ (by first | exact hne | exact hne.symm), c1]
    by_cases g : i < k
    · rw [if_pos g, if_pos (by omega)]
    · rw [if_neg g, if_neg (by omega)]
def tA (z : List Int) (k : Nat) : Int := nth z (k * 3)
def tB (z : List Int) (k : Nat) : Int := nth z (k * 3 + 1)
def tC (z : List Int) (k : Nat) : Int := nth z (k * 3 + 2)
theorem RowI.tri {w : World} {A : Option Addr} {z : List Int} {n : Nat} (h : RowI w A z) (hz : z.length = n * 3) {k : Nat} (hk : k < n) : ∃ b off, A = some ⟨b, off, none⟩ ∧ b < w.heap.size ∧ w.cell? ⟨b, off + k * 3, none⟩ = some (.int .i64 (tA z k)) ∧ w.cell? ⟨b, off + k * 3 + 1, none⟩ = some (.int .i64 (tB z k)) ∧ w.cell? ⟨b, off + k * 3 + 2, none⟩ = some (.int .i64 (tC z k)) := by
  obtain ⟨b, off, rfl, hb, hc⟩ := h (by omega)
  exact ⟨b, off, rfl, hb, hc (k * 3) (by omega), by rw [Nat.add_assoc]; exact hc (k * 3 + 1) (by omega), by rw [Nat.add_assoc]; exact hc (k * 3 + 2) (by omega)⟩
/-- Does p hold at one of the first n places? -/
def anyN (p : Nat → Bool) (n : Nat) : Bool := (List.range n).any p
theorem anyN_hit {p : Nat → Bool} {n k : Nat} (hk : k < n) (h : p k = true) : anyN p n = true := List.any_eq_true.2 ⟨k, List.mem_range.2 hk, h⟩
theorem anyN_no {p : Nat → Bool} {n : Nat} (h : ∀ j, j < n → p j = false) : anyN p n = false := by
  unfold anyN
  rw [List.any_eq_false]
  intro x hx
  simp [h x (List.mem_range.1 hx)]
theorem anyN_all {p : Nat → Bool} {n : Nat} (h : anyN p n = false) {k : Nat} (hk : k < n) : p k = false := by
  rcases hp : p k with _ | _
  · rfl
  · rw [anyN_hit hk hp] at h
    simp at h
/-- What slices.IndexFunc hands back: a number that is negative just where nothing was found. -/
def IdxB (b : Bool) (w : World) (e : Ending) (w' : World) : Prop := ∃ r : Int, e = .returned (.int .i64 r) ∧ decide (0 ≤ r) = b ∧ Below w.heap.size w w'

/-- Is a limit (kind, above, speed) as it has to be? -/
def limOk (a b c : Int) : Bool := inB a 1 4 && inB b 0 1000 && inB c 0 20000
theorem limOk_true {a b c : Int} (h : limOk a b c = true) : (1 ≤ a ∧ a ≤ 4) ∧ (0 ≤ b ∧ b ≤ 1000) ∧ (0 ≤ c ∧ c ≤ 20000) := by
  simp only [limOk, Bool.and_eq_true] at h
  obtain ⟨⟨h0, h1⟩, h2⟩ := h
  exact ⟨inB_true h0, inB_true h1, inB_true h2⟩
def badHour (z : List Int) (k : Nat) : Bool := !hourOk (tA z k) (tB z k) (tC z k)
def badLimit (z : List Int) (k : Nat) : Bool := !limOk (tA z k) (tB z k) (tC z k)
def hoursB (z : List Int) (n : Nat) : Bool := decide ((n : Int) ≤ 48) && !anyN (badHour z) n
def limsB (z : List Int) (n : Nat) : Bool := decide ((n : Int) ≤ 8) && !anyN (badLimit z) n
theorem hoursB_true {z : List Int} {n : Nat} (h : hoursB z n = true) : n ≤ 48 ∧ ∀ k, k < n → hourOk (tA z k) (tB z k) (tC z k) = true := by
  simp only [hoursB, Bool.and_eq_true, decide_eq_true_eq, Bool.not_eq_true'] at h
  refine ⟨by omega, fun k hk => ?_⟩
  simpa [badHour] using anyN_all h.2 hk
theorem limsB_true {z : List Int} {n : Nat} (h : limsB z n = true) : n ≤ 8 ∧ ∀ k, k < n → limOk (tA z k) (tB z k) (tC z k) = true := by
  simp only [limsB, Bool.and_eq_true, decide_eq_true_eq, Bool.not_eq_true'] at h
  refine ⟨by omega, fun k hk => ?_⟩
  simpa [badLimit] using anyN_all h.2 hk
theorem toLimit_c (r d x : Int) (w : World) : Calls Try.prog 51 #[.agg #[.int .i64 r, .int .i64 d, .int .i64 x]] w fun e w' => e = .returned (.agg #[.int .i64 r, .int .i64 d, .int .i64 x]) ∧ Below w.heap.size w w' := by
  go_enter Try.func51, Try.ntmps51
  go_wp2
  go_returns
  refine ⟨rfl, ?_⟩
  go_grown
theorem isPace_c (n : Int) (w : World) : Calls Try.prog 67 #[.int .i64 n] w fun e w' => e = .returned (.bool (inB n 0 20000)) ∧ w = w' := by
  go_enter Try.func67, Try.ntmps67
  go_wp2_with
    (first
      | (go_at_call 59; go_call (within_c _ _ _ _); rintro e w' ⟨rfl, rfl⟩))
  all_goals (go_ret; simp)
theorem l08Speed_c (n : Int) (w : World) : Calls Try.prog 65 #[.int .i64 n] w fun e w' => e = .returned (.bool (inB n 0 20000)) ∧ w = w' := by
  go_enter Try.func65, Try.ntmps65
  go_wp2_with
    (first
      | (go_at_call 57; go_call (l00In_c _ _ _ _); rintro e w' ⟨rfl, rfl⟩))
  all_goals (go_ret; simp)
theorem validLimit_c (r d x : Int) (w : World) : Calls Try.prog 54 #[.agg #[.int .i64 r, .int .i64 d, .int .i64 x]] w fun e w' => e = .returned (.bool (limOk r d x)) ∧ Below w.heap.size w w' := by
  unfold limOk
  go_enter Try.func54, Try.ntmps54
  go_wp2_with
    (first
      | (go_at_call 71; go_call (isWeather_c _ _); rintro e w' ⟨rfl, rfl⟩)
      | (go_at_call 59; go_call (within_c _ _ _ _); rintro e w' ⟨rfl, rfl⟩)
      | (go_at_call 67; go_call (isPace_c _ _); rintro e w' ⟨rfl, rfl⟩))
  all_goals (go_returns; refine ⟨by simp [*], ?_⟩; go_grown)
theorem eqHour_c (x y v : Int) (w : World) : Calls Try.prog 49 #[.agg #[.int .i64 x, .int .i64 y, .int .i64 v], .agg #[.int .i64 x, .int .i64 y, .int .i64 v]] w fun e w' => e = .returned (.bool true) ∧ Below w.heap.size w w' := by
  go_enter Try.func49, Try.ntmps49
  go_wp2
  go_returns
  refine ⟨rfl, ?_⟩
  repeat' (first
    | (with_reducible exact Below.refl _ _)
    | (with_reducible assumption)
    | (with_reducible refine Below.alloc ?_ ?_ _)
    | (with_reducible refine Below.drew ?_)
    | (with_reducible refine bdrewN ?_ _)
    | (with_reducible refine Below.setCell ?_ ?_ _)
    | (with_reducible refine bthen (by assumption) ?_ ?_)
    | go_size)
set_option maxHeartbeats 1000000 in
theorem toHourS_c (A : Option Addr) (n c : Nat) (z : List Int) (hz : z.length = n * 3) (hn : n ≤ 1048576) (w : World) (hr : RowI w A z) : Calls Try.prog 15 #[.slice A n c] w fun e w' => e = .returned (.slice (some ⟨w.heap.size, 0, none⟩) n n) ∧ RowI w' (some ⟨w.heap.size, 0, none⟩) z ∧ w.heap.size < w'.heap.size ∧ Below w.heap.size w w' := by
  obtain ⟨i, hi, hzz, hsz, hby⟩ := info_parts (show (Try.prog.info? 40).map (fun i => (i.zero, i.size, i.bytes)) = some (some (.agg #[.int .i64 0, .int .i64 0, .int .i64 0]), 3, 24) by kernel_rfl)
  have hmk : ∀ W : World, (Instr.makeSlice 25 (.int .i64 (n : Int)) (.int .i64 (n : Int))).run Try.prog W = .ok (.slice (some ⟨W.heap.size, 0, none⟩) n n) (W.alloc (.cells (mixA z 0) 40)) := fun W => by
    have hm : madeCells (Value.agg #[.int .i64 0, .int .i64 0, .int .i64 0]).cells (n * 3) = mixA z 0 := by
      apply Array.ext_getElem?
      intro j
      rw [mixA, ints_get, mixL_get z 0 j (by omega), if_neg (by omega)]
      by_cases h : j < z.length
      · rw [if_pos h]
        have h3 : j % 3 = 0 ∨ j % 3 = 1 ∨ j % 3 = 2 := by omega
        rcases h3 with g | g | g <;> simp [madeCells, Value.cells, show j < n * 3 by omega, g]
      · rw [if_neg h]
        simp [madeCells, show ¬ j < n * 3 by omega]
    rw [run_make_rowN (P := Try.prog) 25 40 i _ Try.underlying25 hi hzz .i64 .i64 n n (Nat.le_refl _) (by rw [hby]; omega) (by omega) W, hsz, hm]
  clear hi hzz hsz hby
  have hM0 := MixAt.new w 40 z
  have hB0 : Below w.heap.size w (w.alloc (.cells (mixA z 0) 40)) := (Below.refl _ _).alloc (Nat.le_refl _) _
  go_enter Try.func15, Try.ntmps15
  go_wp2
  clear hmk
  generalize w.alloc (.cells (mixA z 0) 40) = W at *
  have HM0 := Lib.hid hM0
  clear hM0
  go_loopw [4] (fun v wr => ∃ k : Nat, k ≤ n ∧ v = .int .i64 k ∧ Hid (MixAt w.heap.size z (k * 3) wr) ∧ Below w.heap.size w wr) (fun v _ => n - (intOf v).toNat)
  case atStart => exact ⟨0, by omega, rfl, HM0, hB0⟩
  case round =>
    obtain ⟨k, hk, rfl, HM, hBr⟩ := hrel
    by_cases hlt : k < n
    · obtain ⟨b, off, rfl, hbb, c1, c2, c3⟩ := (hr.below hBr).tri hz hlt
      have i1 : (k : Int) < n := by omega
      go_wp2_with (go_at_call 24; go_call (toHour_c _ _ _ _); rintro e wC ⟨rfl, hb⟩; have hMC := HM.out.below hb; have m1 := (hMC.2 (k * 3) (by omega)).1; have f1 := (hMC.2 (k * 3) (by omega)).2; have m2 := (hMC.2 (k * 3 + 1) (by omega)).1; have f2 := (hMC.2 (k * 3 + 1) (by omega)).2; have m3 := (hMC.2 (k * 3 + 2) (by omega)).1; have f3 := (hMC.2 (k * 3 + 2) (by omega)).2; have lb := hMC.1; have HMC := Lib.hid hMC; clear hMC)
      go_roundw
      case rel => exact ⟨k + 1, by omega, by go_num, Lib.hid (by rw [show (k + 1) * 3 = k * 3 + 1 + 1 + 1 by omega]; exact ((HMC.out.set1 (by omega)).set1 (by omega)).set1 (by omega)), (((hBr.trans (hb.mono hBr.size)).setCell (Nat.le_refl _) _).setCell (Nat.le_refl _) _).setCell (Nat.le_refl _) _⟩
      case measure => simp [intOf]; omega
    · obtain rfl : k = n := by omega
      have HR := Lib.hid (show RowI wr (some ⟨w.heap.size, 0, none⟩) z from (show MixAt w.heap.size z z.length wr from by rw [hz]; exact HM.out).row)
      have hl := HM.out.1
      go_wp2
      go_ret
      exact ⟨rfl, HR.out, hl, hBr⟩
theorem szHourS_c (A : Option Addr) (n c : Nat) (l : Int) (hl : l = 1048576) (hn : n ≤ 9223372036854775807) (w : World) : Calls Try.prog 13 #[.slice A n c, .int .i64 l] w fun e w' => e = .returned (.int .i64 (if n ≤ 1048576 then l - n else -1)) ∧ w = w' := by
  by_cases h : n ≤ 1048576
  · rw [if_pos h]
    subst hl
    have h0 : (0 : Int) ≤ 1048576 - n := by omega
    go_enter Try.func13, Try.ntmps13
    go_wp2
    go_ret
    exact ⟨rfl, rfl⟩
  · rw [if_neg h]
    subst hl
    have h0 : (1048576 : Int) - n < 0 := by omega
    go_enter Try.func13, Try.ntmps13
    go_wp2
    go_ret
    exact ⟨rfl, rfl⟩
set_option maxHeartbeats 1000000 in
theorem eqHourS_c (A B : Option Addr) (n c d : Nat) (z : List Int) (hz : z.length = n * 3) (hn : n ≤ 1048576) (w : World) (ha : RowI w A z) (hb : RowI w B z) : Calls Try.prog 17 #[.slice A n c, .slice B n d] w fun e w' => e = .returned (.bool true) ∧ Below w.heap.size w w' := by
  go_enter Try.func17, Try.ntmps17
  go_wp2
  go_loopw [5] (fun v wr => ∃ k : Nat, k ≤ n ∧ v = .int .i64 k ∧ Below w.heap.size w wr) (fun v _ => n - (intOf v).toNat)
  case atStart => exact ⟨0, by omega, rfl, Below.refl _ _⟩
  case round =>
    obtain ⟨k, hk, rfl, hBr⟩ := hrel
    by_cases hlt : k < n
    · obtain ⟨b, off, rfl, hbb, c1, c2, c3⟩ := (ha.below hBr).tri hz hlt
      obtain ⟨b', off', rfl, hbb', c1', c2', c3'⟩ := (hb.below hBr).tri hz hlt
      have i1 : (k : Int) < n := by omega
      have hsr := hBr.size
      go_wp2
      first
        | go_region_held3 (fun w' => w'.cell? ⟨b, off + k * 3, none⟩ = some (.int .i64 (tA z k)) ∧ w'.cell? ⟨b, off + k * 3 + 1, none⟩ = some (.int .i64 (tB z k)) ∧ w'.cell? ⟨b, off + k * 3 + 2, none⟩ = some (.int .i64 (tC z k)) ∧ w'.cell? ⟨b', off' + k * 3, none⟩ = some (.int .i64 (tA z k)) ∧ w'.cell? ⟨b', off' + k * 3 + 1, none⟩ = some (.int .i64 (tB z k)) ∧ w'.cell? ⟨b', off' + k * 3 + 2, none⟩ = some (.int .i64 (tC z k)) ∧ b < w'.heap.size ∧ b' < w'.heap.size) (((try dsimp only at *); (try go_split_ands); (repeat' apply And.intro) <;> first | (with_reducible assumption) | (rw [qc _ _ (by with_reducible assumption)]; with_reducible assumption) | (with_reducible exact qz _ (by with_reducible assumption)) | (with_reducible exact RowI.below (by with_reducible assumption) (by with_reducible assumption)) | (simp [*, go_sem]; done) | omega | (refine RowI.drew ?_; simp [*]; done) | ((repeat (first | (with_reducible assumption) | (with_reducible refine RowI.drew ?_) | (with_reducible refine RowI.drewN ?_ _) | (with_reducible refine RowI.alloc ?_ _) | (with_reducible refine RowI.below ?_ (by with_reducible assumption)))); done) | (refine RowI.below ?_ (by assumption); first | (simp [*]; done) | (refine RowI.drew ?_; simp [*]; done))))
            (first
              | (go_at_call 49; go_call (eqHour_c _ _ _ _); rintro e w' ⟨rfl, hb⟩; obtain ⟨qc, qf, qz, qs⟩ := bfacts hb; (try simp only [World.size_alloc, World.size_setCell, World.size_drew, World.heap_drewN] at qs)))
        | fail
      go_wp2
      go_roundw
      case rel =>
        refine ⟨k + 1, by omega, by go_num, ?_⟩
        repeat' (first
          | (with_reducible exact Below.refl _ _)
          | (with_reducible assumption)
          | (with_reducible refine Below.alloc ?_ ?_ _)
          | (with_reducible refine Below.drew ?_)
          | (with_reducible refine bdrewN ?_ _)
          | (with_reducible refine Below.setCell ?_ ?_ _)
          | (with_reducible refine bthen (by assumption) ?_ ?_)
          | go_size)
      case measure => simp [intOf]; omega
    · go_wp2
      go_ret
      exact ⟨rfl, hBr⟩
theorem ValidHours1_c (r d x : Int) (w : World) : Calls Try.prog 47 #[.agg #[.int .i64 r, .int .i64 d, .int .i64 x]] w fun e w' => e = .returned (.bool (!hourOk r d x)) ∧ Below w.heap.size w w' := by
  go_enter Try.func47, Try.ntmps47
  go_wp2_with
    (first
      | (go_at_call 48; go_call (validHour_c _ _ _ _); rintro e w' ⟨rfl, hb⟩; obtain ⟨qc, qf, qz, qs⟩ := bfacts hb; (try simp only [World.size_alloc, World.size_setCell, World.size_drew, World.heap_drewN] at qs)))
  go_returns
  refine ⟨by simp, ?_⟩
  repeat' (first
    | (with_reducible exact Below.refl _ _)
    | (with_reducible assumption)
    | (with_reducible refine Below.alloc ?_ ?_ _)
    | (with_reducible refine Below.drew ?_)
    | (with_reducible refine bdrewN ?_ _)
    | (with_reducible refine Below.setCell ?_ ?_ _)
    | (with_reducible refine bthen (by assumption) ?_ ?_)
    | go_size)
theorem indexFuncHour_c (A : Option Addr) (n c : Nat) (z : List Int) (hz : z.length = n * 3) (hn : n ≤ 1048576) (w : World) (hr : RowI w A z) : Calls Try.prog 69 #[.slice A n c, .func (.func 47) #[] #[]] w (IdxB (anyN (badHour z) n) w) := by
  go_enter Try.func69, Try.ntmps69
  go_wp2
  go_loopw [8] (fun v wr => ∃ k : Nat, k ≤ n ∧ v = .int .i64 k ∧ Hid (∀ j, j < k → badHour z j = false) ∧ Below w.heap.size w wr) (fun v _ => n - (intOf v).toNat)
  case atStart => exact ⟨0, by omega, rfl, Lib.hid (fun j hj => by omega), Below.refl _ _⟩
  case round =>
    obtain ⟨k, hk, rfl, HK, hBr⟩ := hrel
    by_cases hlt : k < n
    · obtain ⟨b, off, rfl, hb, c1, c2, c3⟩ := (hr.below hBr).tri hz hlt
      have i1 : (k : Int) < n := by omega
      cases hp : !hourOk (tA z k) (tB z k) (tC z k)
      · have HN := Lib.hid (show ∀ j, j < k + 1 → badHour z j = false from fun j hj => by
          rcases Nat.lt_or_ge j k with h1 | h1
          · exact HK.out j h1
          · obtain rfl : j = k := by omega
            exact hp)
        go_wp2_with (go_at_call 47; go_call (ValidHours1_c _ _ _ _); rintro e w' ⟨rfl, hq⟩)
        go_roundw
        case rel => exact ⟨k + 1, by omega, by go_num, HN, hBr.trans (hq.mono hBr.size)⟩
        case measure => simp [intOf]; omega
      · have HA := Lib.hid (anyN_hit (p := badHour z) hlt hp)
        go_wp2_with (go_at_call 47; go_call (ValidHours1_c _ _ _ _); rintro e w' ⟨rfl, hq⟩)
        go_ret
        exact ⟨k, rfl, by rw [HA.out]; simp, hBr.trans (hq.mono hBr.size)⟩
    · obtain rfl : k = n := by omega
      have HA := Lib.hid (anyN_no HK.out)
      go_wp2
      go_ret
      exact ⟨-1, rfl, by rw [HA.out]; simp, hBr⟩
theorem containsFuncHour_c (A : Option Addr) (n c : Nat) (z : List Int) (hz : z.length = n * 3) (hn : n ≤ 1048576) (w : World) (hr : RowI w A z) : Calls Try.prog 46 #[.slice A n c, .func (.func 47) #[] #[]] w fun e w' => e = .returned (.bool (anyN (badHour z) n)) ∧ Below w.heap.size w w' := by
  have HC := Lib.hid (indexFuncHour_c A n c z hz hn w hr)
  generalize anyN (badHour z) n = b at *
  go_enter Try.func46, Try.ntmps46
  go_wp2_with (go_at_call 69; (refine HC.out.mono ?_); rintro e w' ⟨r, rfl, hr, hb⟩)
  go_ret
  exact ⟨by simp [hr], hb⟩
theorem implValidHours_c (A : Option Addr) (n c : Nat) (z : List Int) (hz : z.length = n * 3) (hn : n ≤ 1048576) (w : World) (hr : RowI w A z) : Calls Try.prog 16 #[.slice A n c] w fun e w' => e = .returned (.bool (hoursB z n)) ∧ Below w.heap.size w w' := by
  have HC := Lib.hid (containsFuncHour_c A n c z hz hn w hr)
  have hs : hoursB z n = (decide ((n : Int) ≤ 48) && !anyN (badHour z) n) := rfl
  rw [hs]
  clear hs
  generalize anyN (badHour z) n = b at *
  by_cases h : (n : Int) ≤ 48
  all_goals
    go_enter Try.func16, Try.ntmps16
    go_wp2_with (go_at_call 46; (refine HC.out.mono ?_); rintro e w' ⟨rfl, hb⟩)
    go_returns
    refine ⟨by simp [h] <;> omega, ?_⟩
    repeat' (first
      | (with_reducible exact Below.refl _ _)
      | (with_reducible assumption)
      | (with_reducible refine Below.alloc ?_ ?_ _)
      | (with_reducible refine Below.drew ?_)
      | (with_reducible refine bdrewN ?_ _)
      | (with_reducible refine Below.setCell ?_ ?_ _)
      | (with_reducible refine bthen (by assumption) ?_ ?_)
      | go_size)
set_option maxHeartbeats 1000000 in
theorem l08Ok_c (A : Option Addr) (n c : Nat) (z : List Int) (hz : z.length = n * 3) (hn : n ≤ 1048576) (w : World) (hr : RowI w A z) : Calls Try.prog 45 #[.slice A n c] w fun e w' => e = .returned (.bool (hoursB z n)) ∧ Below w.heap.size w w' := by
  go_enter Try.func45, Try.ntmps45
  go_wp2
  go_loopw [3] (fun v wr => ∃ k : Nat, k ≤ n ∧ v = .int .i64 k ∧ Hid (∀ j, j < k → badHour z j = false) ∧ Below w.heap.size w wr) (fun v _ => n - (intOf v).toNat)
  case atStart => exact ⟨0, by omega, rfl, Lib.hid (fun j hj => by omega), Below.refl _ _⟩
  case round =>
    obtain ⟨k, hk, rfl, HK, hBr⟩ := hrel
    by_cases hlt : k < n
    · obtain ⟨b, off, rfl, hb, c1, c2, c3⟩ := (hr.below hBr).tri hz hlt
      have i1 : (k : Int) < n := by omega
      cases hp : hourOk (tA z k) (tB z k) (tC z k)
      · have HA := Lib.hid (show hoursB z n = false from by unfold hoursB; rw [anyN_hit (p := badHour z) hlt (by simp [badHour, hp])]; simp)
        go_wp2_with (go_at_call 56; go_call (l08One_c (tA z k) (tB z k) (tC z k) _ _ _ c1 c2 c3); rintro e w' ⟨rfl, rfl⟩)
        go_ret
        exact ⟨by (rw [HA.out]) <;> rfl, hBr⟩
      · have HN := Lib.hid (show ∀ j, j < k + 1 → badHour z j = false from fun j hj => by
          rcases Nat.lt_or_ge j k with h1 | h1
          · exact HK.out j h1
          · obtain rfl : j = k := by omega
            simp [badHour, hp])
        go_wp2_with (go_at_call 56; go_call (l08One_c (tA z k) (tB z k) (tC z k) _ _ _ c1 c2 c3); rintro e w' ⟨rfl, rfl⟩)
        go_roundw
        case rel => exact ⟨k + 1, by omega, by go_num, HN, hBr⟩
        case measure => simp [intOf]; omega
    · obtain rfl : k = n := by omega
      have HA := Lib.hid (show hoursB z k = decide ((k : Int) ≤ 48) from by unfold hoursB; rw [anyN_no HK.out]; simp)
      go_wp2
      go_ret
      exact ⟨by (rw [HA.out]) <;> rfl, hBr⟩
theorem specValidHours_c (A : Option Addr) (n c : Nat) (z : List Int) (hz : z.length = n * 3) (hn : n ≤ 1048576) (w : World) (hr : RowI w A z) : Calls Try.prog 14 #[.slice A n c] w fun e w' => e = .returned (.bool (hoursB z n)) ∧ Below w.heap.size w w' := by
  go_enter Try.func14, Try.ntmps14
  go_wp2_with (go_at_call 45; (refine (l08Ok_c _ n _ z hz hn _ hr).mono ?_); rintro e w' ⟨rfl, hb⟩)
  go_returns
  refine ⟨rfl, ?_⟩
  repeat' (first
    | (with_reducible exact Below.refl _ _)
    | (with_reducible assumption)
    | (with_reducible refine Below.alloc ?_ ?_ _)
    | (with_reducible refine Below.drew ?_)
    | (with_reducible refine bdrewN ?_ _)
    | (with_reducible refine Below.setCell ?_ ?_ _)
    | (with_reducible refine bthen (by assumption) ?_ ?_)
    | go_size)
theorem eqLimit_c (x y v : Int) (w : World) : Calls Try.prog 55 #[.agg #[.int .i64 x, .int .i64 y, .int .i64 v], .agg #[.int .i64 x, .int .i64 y, .int .i64 v]] w fun e w' => e = .returned (.bool true) ∧ Below w.heap.size w w' := by
  go_enter Try.func55, Try.ntmps55
  go_wp2
  go_returns
  refine ⟨rfl, ?_⟩
  repeat' (first
    | (with_reducible exact Below.refl _ _)
    | (with_reducible assumption)
    | (with_reducible refine Below.alloc ?_ ?_ _)
    | (with_reducible refine Below.drew ?_)
    | (with_reducible refine bdrewN ?_ _)
    | (with_reducible refine Below.setCell ?_ ?_ _)
    | (with_reducible refine bthen (by assumption) ?_ ?_)
    | go_size)
set_option maxHeartbeats 1000000 in
theorem toLimitS_c (A : Option Addr) (n c : Nat) (z : List Int) (hz : z.length = n * 3) (hn : n ≤ 1048576) (w : World) (hr : RowI w A z) : Calls Try.prog 20 #[.slice A n c] w fun e w' => e = .returned (.slice (some ⟨w.heap.size, 0, none⟩) n n) ∧ RowI w' (some ⟨w.heap.size, 0, none⟩) z ∧ w.heap.size < w'.heap.size ∧ Below w.heap.size w w' := by
  obtain ⟨i, hi, hzz, hsz, hby⟩ := info_parts (show (Try.prog.info? 65).map (fun i => (i.zero, i.size, i.bytes)) = some (some (.agg #[.int .i64 0, .int .i64 0, .int .i64 0]), 3, 24) by kernel_rfl)
  have hmk : ∀ W : World, (Instr.makeSlice 32 (.int .i64 (n : Int)) (.int .i64 (n : Int))).run Try.prog W = .ok (.slice (some ⟨W.heap.size, 0, none⟩) n n) (W.alloc (.cells (mixA z 0) 65)) := fun W => by
    have hm : madeCells (Value.agg #[.int .i64 0, .int .i64 0, .int .i64 0]).cells (n * 3) = mixA z 0 := by
      apply Array.ext_getElem?
      intro j
      rw [mixA, ints_get, mixL_get z 0 j (by omega), if_neg (by omega)]
      by_cases h : j < z.length
      · rw [if_pos h]
        have h3 : j % 3 = 0 ∨ j % 3 = 1 ∨ j % 3 = 2 := by omega
        rcases h3 with g | g | g <;> simp [madeCells, Value.cells, show j < n * 3 by omega, g]
      · rw [if_neg h]
        simp [madeCells, show ¬ j < n * 3 by omega]
    rw [run_make_rowN (P := Try.prog) 32 65 i _ Try.underlying32 hi hzz .i64 .i64 n n (Nat.le_refl _) (by rw [hby]; omega) (by omega) W, hsz, hm]
  clear hi hzz hsz hby
  have hM0 := MixAt.new w 65 z
  have hB0 : Below w.heap.size w (w.alloc (.cells (mixA z 0) 65)) := (Below.refl _ _).alloc (Nat.le_refl _) _
  go_enter Try.func20, Try.ntmps20
  go_wp2
  clear hmk
  generalize w.alloc (.cells (mixA z 0) 65) = W at *
  have HM0 := Lib.hid hM0
  clear hM0
  go_loopw [4] (fun v wr => ∃ k : Nat, k ≤ n ∧ v = .int .i64 k ∧ Hid (MixAt w.heap.size z (k * 3) wr) ∧ Below w.heap.size w wr) (fun v _ => n - (intOf v).toNat)
  case atStart => exact ⟨0, by omega, rfl, HM0, hB0⟩
  case round =>
    obtain ⟨k, hk, rfl, HM, hBr⟩ := hrel
    by_cases hlt : k < n
    · obtain ⟨b, off, rfl, hbb, c1, c2, c3⟩ := (hr.below hBr).tri hz hlt
      have i1 : (k : Int) < n := by omega
      go_wp2_with (go_at_call 51; go_call (toLimit_c _ _ _ _); rintro e wC ⟨rfl, hb⟩; have hMC := HM.out.below hb; have m1 := (hMC.2 (k * 3) (by omega)).1; have f1 := (hMC.2 (k * 3) (by omega)).2; have m2 := (hMC.2 (k * 3 + 1) (by omega)).1; have f2 := (hMC.2 (k * 3 + 1) (by omega)).2; have m3 := (hMC.2 (k * 3 + 2) (by omega)).1; have f3 := (hMC.2 (k * 3 + 2) (by omega)).2; have lb := hMC.1; have HMC := Lib.hid hMC; clear hMC)
      go_roundw
      case rel => exact ⟨k + 1, by omega, by go_num, Lib.hid (by rw [show (k + 1) * 3 = k * 3 + 1 + 1 + 1 by omega]; exact ((HMC.out.set1 (by omega)).set1 (by omega)).set1 (by omega)), (((hBr.trans (hb.mono hBr.size)).setCell (Nat.le_refl _) _).setCell (Nat.le_refl _) _).setCell (Nat.le_refl _) _⟩
      case measure => simp [intOf]; omega
    · obtain rfl : k = n := by omega
      have HR := Lib.hid (show RowI wr (some ⟨w.heap.size, 0, none⟩) z from (show MixAt w.heap.size z z.length wr from by rw [hz]; exact HM.out).row)
      have hl := HM.out.1
      go_wp2
      go_ret
      exact ⟨rfl, HR.out, hl, hBr⟩
theorem szLimitS_c (A : Option Addr) (n c : Nat) (l : Int) (hl : l = 1048576) (hn : n ≤ 9223372036854775807) (w : World) : Calls Try.prog 18 #[.slice A n c, .int .i64 l] w fun e w' => e = .returned (.int .i64 (if n ≤ 1048576 then l - n else -1)) ∧ w = w' := by
  by_cases h : n ≤ 1048576
  · rw [if_pos h]
    subst hl
    have h0 : (0 : Int) ≤ 1048576 - n := by omega
    go_enter Try.func18, Try.ntmps18
    go_wp2
    go_ret
    exact ⟨rfl, rfl⟩
  · rw [if_neg h]
    subst hl
    have h0 : (1048576 : Int) - n < 0 := by omega
    go_enter Try.func18, Try.ntmps18
    go_wp2
    go_ret
    exact ⟨rfl, rfl⟩
set_option maxHeartbeats 1000000 in
theorem eqLimitS_c (A B : Option Addr) (n c d : Nat) (z : List Int) (hz : z.length = n * 3) (hn : n ≤ 1048576) (w : World) (ha : RowI w A z) (hb : RowI w B z) : Calls Try.prog 22 #[.slice A n c, .slice B n d] w fun e w' => e = .returned (.bool true) ∧ Below w.heap.size w w' := by
  go_enter Try.func22, Try.ntmps22
  go_wp2
  go_loopw [5] (fun v wr => ∃ k : Nat, k ≤ n ∧ v = .int .i64 k ∧ Below w.heap.size w wr) (fun v _ => n - (intOf v).toNat)
  case atStart => exact ⟨0, by omega, rfl, Below.refl _ _⟩
  case round =>
    obtain ⟨k, hk, rfl, hBr⟩ := hrel
    by_cases hlt : k < n
    · obtain ⟨b, off, rfl, hbb, c1, c2, c3⟩ := (ha.below hBr).tri hz hlt
      obtain ⟨b', off', rfl, hbb', c1', c2', c3'⟩ := (hb.below hBr).tri hz hlt
      have i1 : (k : Int) < n := by omega
      have hsr := hBr.size
      go_wp2
      first
        | go_region_held3 (fun w' => w'.cell? ⟨b, off + k * 3, none⟩ = some (.int .i64 (tA z k)) ∧ w'.cell? ⟨b, off + k * 3 + 1, none⟩ = some (.int .i64 (tB z k)) ∧ w'.cell? ⟨b, off + k * 3 + 2, none⟩ = some (.int .i64 (tC z k)) ∧ w'.cell? ⟨b', off' + k * 3, none⟩ = some (.int .i64 (tA z k)) ∧ w'.cell? ⟨b', off' + k * 3 + 1, none⟩ = some (.int .i64 (tB z k)) ∧ w'.cell? ⟨b', off' + k * 3 + 2, none⟩ = some (.int .i64 (tC z k)) ∧ b < w'.heap.size ∧ b' < w'.heap.size) (((try dsimp only at *); (try go_split_ands); (repeat' apply And.intro) <;> first | (with_reducible assumption) | (rw [qc _ _ (by with_reducible assumption)]; with_reducible assumption) | (with_reducible exact qz _ (by with_reducible assumption)) | (with_reducible exact RowI.below (by with_reducible assumption) (by with_reducible assumption)) | (simp [*, go_sem]; done) | omega | (refine RowI.drew ?_; simp [*]; done) | ((repeat (first | (with_reducible assumption) | (with_reducible refine RowI.drew ?_) | (with_reducible refine RowI.drewN ?_ _) | (with_reducible refine RowI.alloc ?_ _) | (with_reducible refine RowI.below ?_ (by with_reducible assumption)))); done) | (refine RowI.below ?_ (by assumption); first | (simp [*]; done) | (refine RowI.drew ?_; simp [*]; done))))
            (first
              | (go_at_call 55; go_call (eqLimit_c _ _ _ _); rintro e w' ⟨rfl, hb⟩; obtain ⟨qc, qf, qz, qs⟩ := bfacts hb; (try simp only [World.size_alloc, World.size_setCell, World.size_drew, World.heap_drewN] at qs)))
        | fail
      go_wp2
      go_roundw
      case rel =>
        refine ⟨k + 1, by omega, by go_num, ?_⟩
        repeat' (first
          | (with_reducible exact Below.refl _ _)
          | (with_reducible assumption)
          | (with_reducible refine Below.alloc ?_ ?_ _)
          | (with_reducible refine Below.drew ?_)
          | (with_reducible refine bdrewN ?_ _)
          | (with_reducible refine Below.setCell ?_ ?_ _)
          | (with_reducible refine bthen (by assumption) ?_ ?_)
          | go_size)
      case measure => simp [intOf]; omega
    · go_wp2
      go_ret
      exact ⟨rfl, hBr⟩
theorem ValidLimits1_c (r d x : Int) (w : World) : Calls Try.prog 53 #[.agg #[.int .i64 r, .int .i64 d, .int .i64 x]] w fun e w' => e = .returned (.bool (!limOk r d x)) ∧ Below w.heap.size w w' := by
  go_enter Try.func53, Try.ntmps53
  go_wp2_with
    (first
      | (go_at_call 54; go_call (validLimit_c _ _ _ _); rintro e w' ⟨rfl, hb⟩; obtain ⟨qc, qf, qz, qs⟩ := bfacts hb; (try simp only [World.size_alloc, World.size_setCell, World.size_drew, World.heap_drewN] at qs)))
  go_returns
  refine ⟨by simp, ?_⟩
  repeat' (first
    | (with_reducible exact Below.refl _ _)
    | (with_reducible assumption)
    | (with_reducible refine Below.alloc ?_ ?_ _)
    | (with_reducible refine Below.drew ?_)
    | (with_reducible refine bdrewN ?_ _)
    | (with_reducible refine Below.setCell ?_ ?_ _)
    | (with_reducible refine bthen (by assumption) ?_ ?_)
    | go_size)
theorem indexFuncLimit_c (A : Option Addr) (n c : Nat) (z : List Int) (hz : z.length = n * 3) (hn : n ≤ 1048576) (w : World) (hr : RowI w A z) : Calls Try.prog 70 #[.slice A n c, .func (.func 53) #[] #[]] w (IdxB (anyN (badLimit z) n) w) := by
  go_enter Try.func70, Try.ntmps70
  go_wp2
  go_loopw [8] (fun v wr => ∃ k : Nat, k ≤ n ∧ v = .int .i64 k ∧ Hid (∀ j, j < k → badLimit z j = false) ∧ Below w.heap.size w wr) (fun v _ => n - (intOf v).toNat)
  case atStart => exact ⟨0, by omega, rfl, Lib.hid (fun j hj => by omega), Below.refl _ _⟩
  case round =>
    obtain ⟨k, hk, rfl, HK, hBr⟩ := hrel
    by_cases hlt : k < n
    · obtain ⟨b, off, rfl, hb, c1, c2, c3⟩ := (hr.below hBr).tri hz hlt
      have i1 : (k : Int) < n := by omega
      cases hp : !limOk (tA z k) (tB z k) (tC z k)
      · have HN := Lib.hid (show ∀ j, j < k + 1 → badLimit z j = false from fun j hj => by
          rcases Nat.lt_or_ge j k with h1 | h1
          · exact HK.out j h1
          · obtain rfl : j = k := by omega
            exact hp)
        go_wp2_with (go_at_call 53; go_call (ValidLimits1_c _ _ _ _); rintro e w' ⟨rfl, hq⟩)
        go_roundw
        case rel => exact ⟨k + 1, by omega, by go_num, HN, hBr.trans (hq.mono hBr.size)⟩
        case measure => simp [intOf]; omega
      · have HA := Lib.hid (anyN_hit (p := badLimit z) hlt hp)
        go_wp2_with (go_at_call 53; go_call (ValidLimits1_c _ _ _ _); rintro e w' ⟨rfl, hq⟩)
        go_ret
        exact ⟨k, rfl, by rw [HA.out]; simp, hBr.trans (hq.mono hBr.size)⟩
    · obtain rfl : k = n := by omega
      have HA := Lib.hid (anyN_no HK.out)
      go_wp2
      go_ret
      exact ⟨-1, rfl, by rw [HA.out]; simp, hBr⟩
theorem containsFuncLimit_c (A : Option Addr) (n c : Nat) (z : List Int) (hz : z.length = n * 3) (hn : n ≤ 1048576) (w : World) (hr : RowI w A z) : Calls Try.prog 52 #[.slice A n c, .func (.func 53) #[] #[]] w fun e w' => e = .returned (.bool (anyN (badLimit z) n)) ∧ Below w.heap.size w w' := by
  have HC := Lib.hid (indexFuncLimit_c A n c z hz hn w hr)
  generalize anyN (badLimit z) n = b at *
  go_enter Try.func52, Try.ntmps52
  go_wp2_with (go_at_call 70; (refine HC.out.mono ?_); rintro e w' ⟨r, rfl, hr, hb⟩)
  go_ret
  exact ⟨by simp [hr], hb⟩
theorem implValidLimits_c (A : Option Addr) (n c : Nat) (z : List Int) (hz : z.length = n * 3) (hn : n ≤ 1048576) (w : World) (hr : RowI w A z) : Calls Try.prog 21 #[.slice A n c] w fun e w' => e = .returned (.bool (limsB z n)) ∧ Below w.heap.size w w' := by
  have HC := Lib.hid (containsFuncLimit_c A n c z hz hn w hr)
  have hs : limsB z n = (decide ((n : Int) ≤ 8) && !anyN (badLimit z) n) := rfl
  rw [hs]
  clear hs
  generalize anyN (badLimit z) n = b at *
  by_cases h : (n : Int) ≤ 8
  all_goals
    go_enter Try.func21, Try.ntmps21
    go_wp2_with (go_at_call 52; (refine HC.out.mono ?_); rintro e w' ⟨rfl, hb⟩)
    go_returns
    refine ⟨by simp [h] <;> omega, ?_⟩
    repeat' (first
      | (with_reducible exact Below.refl _ _)
      | (with_reducible assumption)
      | (with_reducible refine Below.alloc ?_ ?_ _)
      | (with_reducible refine Below.drew ?_)
      | (with_reducible refine bdrewN ?_ _)
      | (with_reducible refine Below.setCell ?_ ?_ _)
      | (with_reducible refine bthen (by assumption) ?_ ?_)
      | go_size)
set_option maxHeartbeats 1000000 in
theorem l08Limits_c (A : Option Addr) (n c : Nat) (z : List Int) (hz : z.length = n * 3) (hn : n ≤ 1048576) (w : World) (hr : RowI w A z) : Calls Try.prog 50 #[.slice A n c] w fun e w' => e = .returned (.bool (limsB z n)) ∧ Below w.heap.size w w' := by
  go_enter Try.func50, Try.ntmps50
  go_wp2
  go_loopw [3] (fun v wr => ∃ k : Nat, k ≤ n ∧ v = .int .i64 k ∧ Hid (∀ j, j < k → badLimit z j = false) ∧ Below w.heap.size w wr) (fun v _ => n - (intOf v).toNat)
  case atStart => exact ⟨0, by omega, rfl, Lib.hid (fun j hj => by omega), Below.refl _ _⟩
  case round =>
    obtain ⟨k, hk, rfl, HK, hBr⟩ := hrel
    by_cases hlt : k < n
    · obtain ⟨b, off, rfl, hb, c1, c2, c3⟩ := (hr.below hBr).tri hz hlt
      have i1 : (k : Int) < n := by omega
      cases hp0 : inB (tA z k) 1 4
      rotate_left 1
      cases hp1 : inB (tB z k) 0 1000
      rotate_left 1
      cases hp2 : inB (tC z k) 0 20000
      rotate_left 1
      · have HN := Lib.hid (show ∀ j, j < k + 1 → badLimit z j = false from fun j hj => by
          rcases Nat.lt_or_ge j k with h1 | h1
          · exact HK.out j h1
          · obtain rfl : j = k := by omega
            simp [badLimit, limOk, hp0, hp1, hp2])
        go_wp2_with
          (first
            | (go_at_call 57; go_call (l00In_c _ _ _ _); rintro e w' ⟨rfl, rfl⟩)
            | (go_at_call 65; go_call (l08Speed_c _ _); rintro e w' ⟨rfl, rfl⟩))
        go_roundw
        case rel =>
          refine ⟨k + 1, by omega, by go_num, HN, ?_⟩
          repeat' (first
            | (with_reducible exact Below.refl _ _)
            | (with_reducible assumption)
            | (with_reducible refine Below.alloc ?_ ?_ _)
            | (with_reducible refine Below.drew ?_)
            | (with_reducible refine bdrewN ?_ _)
            | (with_reducible refine Below.setCell ?_ ?_ _)
            | (with_reducible refine bthen (by assumption) ?_ ?_)
            | go_size)
        case measure => simp [intOf]; omega
      all_goals
        have HA := Lib.hid (show limsB z n = false from by unfold limsB; rw [anyN_hit (p := badLimit z) hlt (by simp [badLimit, limOk, *])]; simp)
        go_wp2_with
          (first
            | (go_at_call 57; go_call (l00In_c _ _ _ _); rintro e w' ⟨rfl, rfl⟩)
            | (go_at_call 65; go_call (l08Speed_c _ _); rintro e w' ⟨rfl, rfl⟩))
        go_returns
        refine ⟨by (rw [HA.out]) <;> rfl, ?_⟩
        repeat' (first
          | (with_reducible exact Below.refl _ _)
          | (with_reducible assumption)
          | (with_reducible refine Below.alloc ?_ ?_ _)
          | (with_reducible refine Below.drew ?_)
          | (with_reducible refine bdrewN ?_ _)
          | (with_reducible refine Below.setCell ?_ ?_ _)
          | (with_reducible refine bthen (by assumption) ?_ ?_)
          | go_size)
    · obtain rfl : k = n := by omega
      have HA := Lib.hid (show limsB z k = decide ((k : Int) ≤ 8) from by unfold limsB; rw [anyN_no HK.out]; simp)
      go_wp2
      go_ret
      exact ⟨by (rw [HA.out]) <;> rfl, hBr⟩
theorem specValidLimits_c (A : Option Addr) (n c : Nat) (z : List Int) (hz : z.length = n * 3) (hn : n ≤ 1048576) (w : World) (hr : RowI w A z) : Calls Try.prog 19 #[.slice A n c] w fun e w' => e = .returned (.bool (limsB z n)) ∧ Below w.heap.size w w' := by
  go_enter Try.func19, Try.ntmps19
  go_wp2_with (go_at_call 50; (refine (l08Limits_c _ n _ z hz hn _ hr).mono ?_); rintro e w' ⟨rfl, hb⟩)
  go_returns
  refine ⟨rfl, ?_⟩
  repeat' (first
    | (with_reducible exact Below.refl _ _)
    | (with_reducible assumption)
    | (with_reducible refine Below.alloc ?_ ?_ _)
    | (with_reducible refine Below.drew ?_)
    | (with_reducible refine bdrewN ?_ _)
    | (with_reducible refine Below.setCell ?_ ?_ _)
    | (with_reducible refine bthen (by assumption) ?_ ?_)
    | go_size)
set_option maxHeartbeats 1000000 in
theorem walk_FnExactValidHours (A : Option Addr) (n c : Nat) (z : List Int) (w : World) (h : StructArg 3 w A n z) : Calls Try.prog 3 #[.slice A n c] w fun e w' => e = .returned (.bool true) ∧ Below w.heap.size w w' := by
  obtain ⟨hz, hmax, hr, _⟩ := h
  have HSZ := Lib.hid (szHourS_c A n c 1048576 rfl hmax)
  by_cases hn : n ≤ 1048576
  · rw [if_pos hn] at HSZ
    have hn1 : (0 : Int) ≤ 1048576 - n := by omega
    go_enter Try.func3, Try.ntmps3
    go_wp2_with (go_at_call 13; (refine (HSZ.out _).mono ?_); rintro e w' ⟨rfl, rfl⟩)
    go_wp2_with (go_at_call 15; (refine (toHourS_c A n _ z hz hn _ hr).mono ?_); rintro e w1 ⟨rfl, hR1, hl1, hb1⟩; have hr1 := hr.below hb1)
    go_wp2_with (go_at_call 14; (refine (specValidHours_c _ n _ z hz hn _ hR1).mono ?_); rintro e w2 ⟨rfl, hb2⟩; have hr2 := hr1.below hb2)
    go_wp2_with (go_at_call 15; (refine (toHourS_c A n _ z hz hn _ hr2).mono ?_); rintro e w3 ⟨rfl, hR3, hl3, hb3⟩; have hr3 := hr2.below hb3)
    go_wp2_with (go_at_call 16; (refine (implValidHours_c _ n _ z hz hn _ hR3).mono ?_); rintro e w4 ⟨rfl, hb4⟩; have hr4 := hr3.below hb4; have hR4 := hR3.below hb4)
    have z1 : w.heap.size ≤ w1.heap.size := hb1.size
    have z2 : w1.heap.size ≤ w2.heap.size := hb2.size
    have z3 : w2.heap.size ≤ w3.heap.size := hb3.size
    have z4 : w3.heap.size ≤ w4.heap.size := hb4.size
    have hB4 : Below w.heap.size w w4 := ((hb1.trans (hb2.mono z1)).trans (hb3.mono (by omega))).trans (hb4.mono (by omega))
    clear hb1 hb2 hb3 hb4 hr1 hr2 hr3 hR1 hR3
    go_wp2_with (go_at_call 15; (refine (toHourS_c A n _ z hz hn _ hr4).mono ?_); rintro e w5 ⟨rfl, hR5, hl5, hb5⟩; have hR6 := hR4.below hb5)
    have z5 : w4.heap.size ≤ w5.heap.size := hb5.size
    go_wp2_with (go_at_call 17; (refine (eqHourS_c _ _ n _ _ z hz hn _ hR6 hR5).mono ?_); rintro e w6 ⟨rfl, hb6⟩)
    go_returns
    refine ⟨by simp, ?_⟩
    exact (hB4.trans (hb5.mono (by omega))).trans (hb6.mono (by omega))
  · rw [if_neg hn] at HSZ
    go_enter Try.func3, Try.ntmps3
    go_wp2_with (go_at_call 13; (refine (HSZ.out _).mono ?_); rintro e w' ⟨rfl, rfl⟩)
    go_returns
    refine ⟨by simp, ?_⟩
    repeat' (first
      | (with_reducible exact Below.refl _ _)
      | (with_reducible assumption)
      | (with_reducible refine Below.alloc ?_ ?_ _)
      | (with_reducible refine Below.drew ?_)
      | (with_reducible refine bdrewN ?_ _)
      | (with_reducible refine Below.setCell ?_ ?_ _)
      | (with_reducible refine bthen (by assumption) ?_ ?_)
      | go_size)
set_option maxHeartbeats 1000000 in
theorem walk_FnExactValidLimits (A : Option Addr) (n c : Nat) (z : List Int) (w : World) (h : StructArg 3 w A n z) : Calls Try.prog 4 #[.slice A n c] w fun e w' => e = .returned (.bool true) ∧ Below w.heap.size w w' := by
  obtain ⟨hz, hmax, hr, _⟩ := h
  have HSZ := Lib.hid (szLimitS_c A n c 1048576 rfl hmax)
  by_cases hn : n ≤ 1048576
  · rw [if_pos hn] at HSZ
    have hn1 : (0 : Int) ≤ 1048576 - n := by omega
    go_enter Try.func4, Try.ntmps4
    go_wp2_with (go_at_call 18; (refine (HSZ.out _).mono ?_); rintro e w' ⟨rfl, rfl⟩)
    go_wp2_with (go_at_call 20; (refine (toLimitS_c A n _ z hz hn _ hr).mono ?_); rintro e w1 ⟨rfl, hR1, hl1, hb1⟩; have hr1 := hr.below hb1)
    go_wp2_with (go_at_call 19; (refine (specValidLimits_c _ n _ z hz hn _ hR1).mono ?_); rintro e w2 ⟨rfl, hb2⟩; have hr2 := hr1.below hb2)
    go_wp2_with (go_at_call 20; (refine (toLimitS_c A n _ z hz hn _ hr2).mono ?_); rintro e w3 ⟨rfl, hR3, hl3, hb3⟩; have hr3 := hr2.below hb3)
    go_wp2_with (go_at_call 21; (refine (implValidLimits_c _ n _ z hz hn _ hR3).mono ?_); rintro e w4 ⟨rfl, hb4⟩; have hr4 := hr3.below hb4; have hR4 := hR3.below hb4)
    have z1 : w.heap.size ≤ w1.heap.size := hb1.size
    have z2 : w1.heap.size ≤ w2.heap.size := hb2.size
    have z3 : w2.heap.size ≤ w3.heap.size := hb3.size
    have z4 : w3.heap.size ≤ w4.heap.size := hb4.size
    have hB4 : Below w.heap.size w w4 := ((hb1.trans (hb2.mono z1)).trans (hb3.mono (by omega))).trans (hb4.mono (by omega))
    clear hb1 hb2 hb3 hb4 hr1 hr2 hr3 hR1 hR3
    go_wp2_with (go_at_call 20; (refine (toLimitS_c A n _ z hz hn _ hr4).mono ?_); rintro e w5 ⟨rfl, hR5, hl5, hb5⟩; have hR6 := hR4.below hb5)
    have z5 : w4.heap.size ≤ w5.heap.size := hb5.size
    go_wp2_with (go_at_call 22; (refine (eqLimitS_c _ _ n _ _ z hz hn _ hR6 hR5).mono ?_); rintro e w6 ⟨rfl, hb6⟩)
    go_returns
    refine ⟨by simp, ?_⟩
    exact (hB4.trans (hb5.mono (by omega))).trans (hb6.mono (by omega))
  · rw [if_neg hn] at HSZ
    go_enter Try.func4, Try.ntmps4
    go_wp2_with (go_at_call 18; (refine (HSZ.out _).mono ?_); rintro e w' ⟨rfl, rfl⟩)
    go_returns
    refine ⟨by simp, ?_⟩
    repeat' (first
      | (with_reducible exact Below.refl _ _)
      | (with_reducible assumption)
      | (with_reducible refine Below.alloc ?_ ?_ _)
      | (with_reducible refine Below.drew ?_)
      | (with_reducible refine bdrewN ?_ _)
      | (with_reducible refine Below.setCell ?_ ?_ _)
      | (with_reducible refine bthen (by assumption) ?_ ?_)
      | go_size)
end Go.Proofs.Ytelakibjcihfaaa
