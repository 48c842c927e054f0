/- ShiftFor. -/
import Derived.Test.YteddchnmjppdeaaF
import Derived.Test.YteddchnmjppdeaaMA
import Derived.Test.YteddchnmjppdeaaSG
namespace Go.Proofs.Yteddchnmjppdeaa
open Go.ChangeShapes Go.WideShapes Go.ChangeAt Go.RowKit
set_option linter.unusedVariables false
set_option linter.unusedSimpArgs false

def nearI (L s t m : Int) : Bool := decide (min ((m + s) % L) (L - (m + s) % L) < t)
def freeB (xs : List Int) (L t s : Int) : Bool := !xs.any (nearI L s t)
/-- The shift at which mark k lies t behind place 0. -/
def shAt (xs : List Int) (L t : Int) (k : Nat) : Int := (t - nth xs k) % L
def shTo (xs : List Int) (L t : Int) : Nat → List Int
  | 0 => [0]
  | k + 1 => shTo xs L t k ++ [shAt xs L t k]
theorem shTo_len (xs : List Int) (L t : Int) : ∀ k, (shTo xs L t k).length = k + 1
  | 0 => rfl
  | k + 1 => by rw [shTo, List.length_append, shTo_len xs L t k]; rfl
theorem shTo_mem {xs : List Int} {L t z : Int} : ∀ {k}, z ∈ shTo xs L t k ↔ z = 0 ∨ ∃ j, j < k ∧ z = shAt xs L t j
  | 0 => by
    simp only [shTo, List.mem_singleton]
    exact ⟨.inl, fun h => h.elim id fun ⟨j, hj, _⟩ => by omega⟩
  | k + 1 => by
    rw [shTo, List.mem_append, shTo_mem (k := k), List.mem_singleton]
    constructor
    · rintro ((h | ⟨j, hj, e⟩) | h)
      · exact .inl h
      · exact .inr ⟨j, by omega, e⟩
      · exact .inr ⟨k, by omega, h⟩
    · rintro (h | ⟨j, hj, e⟩)
      · exact .inl (.inl h)
      · rcases Nat.lt_or_ge j k with h1 | h1
        · exact .inl (.inr ⟨j, h1, e⟩)
        · obtain rfl : j = k := by omega
          exact .inr e
/-- The least free shift that a mark gives among the first k; -1 if there is none. -/
def bestSh (xs : List Int) (L t : Int) : Nat → Int
  | 0 => -1
  | k + 1 => if freeB xs L t (shAt xs L t k) = true ∧ (bestSh xs L t k < 0 ∨ shAt xs L t k < bestSh xs L t k) then shAt xs L t k else bestSh xs L t k
theorem bestSh_is {xs : List Int} {L t : Int} (hL : 0 < L) : ∀ k, (bestSh xs L t k = -1 ∧ ∀ j, j < k → freeB xs L t (shAt xs L t j) = false) ∨ (0 ≤ bestSh xs L t k ∧ freeB xs L t (bestSh xs L t k) = true ∧ (∃ j, j < k ∧ bestSh xs L t k = shAt xs L t j) ∧ ∀ j, j < k → freeB xs L t (shAt xs L t j) = true → bestSh xs L t k ≤ shAt xs L t j)
  | 0 => .inl ⟨rfl, fun j hj => by omega⟩
  | k + 1 => by
    have s0 : 0 ≤ shAt xs L t k := Int.emod_nonneg _ (by omega)
    rw [bestSh]
    rcases bestSh_is (xs := xs) (t := t) hL k with ⟨h1, h2⟩ | ⟨h1, h2, ⟨j, hj, e⟩, h4⟩
    · rw [h1]
      by_cases hf : freeB xs L t (shAt xs L t k) = true
      · rw [if_pos ⟨hf, .inl (by omega)⟩]
        refine .inr ⟨s0, hf, ⟨k, by omega, rfl⟩, fun j hj hfj => ?_⟩
        rcases Nat.lt_or_ge j k with h5 | h5
        · rw [h2 j h5] at hfj
          cases hfj
        · obtain rfl : j = k := by omega
          omega
      · rw [if_neg (fun h => hf h.1)]
        refine .inl ⟨rfl, fun j hj => ?_⟩
        rcases Nat.lt_or_ge j k with h5 | h5
        · exact h2 j h5
        · obtain rfl : j = k := by omega
          simpa using hf
    · by_cases hc : freeB xs L t (shAt xs L t k) = true ∧ (bestSh xs L t k < 0 ∨ shAt xs L t k < bestSh xs L t k)
      · rw [if_pos hc]
        refine .inr ⟨s0, hc.1, ⟨k, by omega, rfl⟩, fun i hi hfi => ?_⟩
        rcases Nat.lt_or_ge i k with h5 | h5
        · have := h4 i h5 hfi
          omega
        · obtain rfl : i = k := by omega
          omega
      · rw [if_neg hc]
        refine .inr ⟨h1, h2, ⟨j, by omega, e⟩, fun i hi hfi => ?_⟩
        rcases Nat.lt_or_ge i k with h5 | h5
        · exact h4 i h5 hfi
        · obtain rfl : i = k := by omega
          rcases Int.lt_or_le (shAt xs L t i) (bestSh xs L t i) with h6 | h6
          · exact absurd ⟨hfi, .inr h6⟩ hc
          · exact h6
theorem find_least {p : Int → Bool} {z : Int} : ∀ {l : List Int}, l.Pairwise (fun a b => a ≤ b) → z ∈ l → p z = true → (∀ y ∈ l, p y = true → z ≤ y) → l.find? p = some z
  | [], _, h, _, _ => by cases h
  | y :: ys, hs, hm, hp, hl => by
    obtain ⟨h1, h2⟩ := List.pairwise_cons.1 hs
    rw [List.find?_cons]
    cases hy : p y
    · rcases List.mem_cons.1 hm with rfl | hm
      · rw [hp] at hy
        cases hy
      · exact find_least h2 hm hp fun u hu => hl u (List.mem_cons_of_mem _ hu)
    · have e1 := hl y (by simp) hy
      rcases List.mem_cons.1 hm with rfl | hm
      · rfl
      · have := h1 z hm
        show some y = some z
        congr 1
        omega
def fShiftI (xs : List Int) (L t : Int) : Int × Int := if freeB xs L t 0 = true then (0, 0) else if bestSh xs L t xs.length < 0 then (0, 3) else (bestSh xs L t xs.length, 0)
def fShift (xs : List Int) (L t : Int) : Int × Int := if marksB xs L then (if inB t 0 4000000 then fShiftI xs L t else (0, 2)) else (0, 2)
theorem find_shift {xs : List Int} {L t : Int} (hL : 0 < L) : fShiftI xs L t = (match (sortI (shTo xs L t xs.length)).find? (freeB xs L t) with | some z => (z, 0) | none => (0, 3)) := by
  have hm : ∀ z, z ∈ sortI (shTo xs L t xs.length) ↔ z = 0 ∨ ∃ j, j < xs.length ∧ z = shAt xs L t j := fun z => (sortI_perm _).mem_iff.trans shTo_mem
  have hle := sortI_le (shTo xs L t xs.length)
  have s0 : ∀ k, 0 ≤ shAt xs L t k := fun k => Int.emod_nonneg _ (by omega)
  unfold fShiftI
  by_cases h0 : freeB xs L t 0 = true
  · rw [if_pos h0, find_least hle ((hm 0).2 (.inl rfl)) h0 (fun y hy _ => by
      rcases (hm y).1 hy with rfl | ⟨j, _, rfl⟩
      · omega
      · exact s0 j)]
  · rw [if_neg h0]
    rcases bestSh_is (xs := xs) (t := t) hL xs.length with ⟨h1, h2⟩ | ⟨h1, h2, ⟨j, hj, e⟩, h4⟩
    · rw [if_pos (by omega)]
      have : (sortI (shTo xs L t xs.length)).find? (freeB xs L t) = none := List.find?_eq_none.2 fun y hy hp => by
        rcases (hm y).1 hy with rfl | ⟨j, hj, rfl⟩
        · exact h0 hp
        · rw [h2 j hj] at hp
          cases hp
      rw [this]
    · rw [if_neg (by omega), find_least hle ((hm _).2 (.inr ⟨j, hj, e⟩)) h2 (fun y hy hp => by
        rcases (hm y).1 hy with rfl | ⟨i, hi, rfl⟩
        · exact absurd hp h0
        · exact h4 i hi hp)]
theorem find_at {p : Int → Bool} : ∀ {l : List Int} {i : Nat}, (∀ j, j < i → p (nth l j) = false) → i < l.length → p (nth l i) = true → l.find? p = some (nth l i)
  | [], i, _, h, _ => by simp at h
  | y :: ys, 0, _, _, hp => by
    have : p y = true := hp
    rw [List.find?_cons, this]
    rfl
  | y :: ys, i + 1, h, hi, hp => by
    have h0 : p y = false := h 0 (by omega)
    rw [List.find?_cons, h0]
    exact find_at (l := ys) (i := i) (fun j hj => h (j + 1) (by omega)) (by simpa using hi) hp
theorem find_no {p : Int → Bool} {l : List Int} (h : ∀ j, j < l.length → p (nth l j) = false) : l.find? p = none := List.find?_eq_none.2 fun y hy hp => by
  obtain ⟨i, hi, rfl⟩ := List.getElem_of_mem hy
  have := h i hi
  have e : nth l i = l[i] := by
    have := nth_eq hi
    rw [List.getElem?_eq_getElem hi] at this
    injection this with this
    exact this.symm
  rw [e, hp] at this
  cases this
theorem OwnI.lit1 {e : TypeId} {w : World} {B b : Nat} (y : Int) (hb : b = w.heap.size) (hB : B ≤ b) : OwnI e (w.alloc (.cells #[.int .i64 y] e)) B (.slice (some ⟨b, 0, none⟩) 1 1) [y] := by
  subst hb
  exact World.ownsRow_lit w #[.int .i64 y] 1 hB (by simp [maxLen]) rfl
theorem shift1_c (m L s t : Int) (hL : 1 ≤ L) (hL' : L ≤ 4000000) (hp : -4000000 ≤ m) (hp' : m ≤ 4000000) (hs : -4000000 ≤ s) (hs' : s ≤ 4000000) (b1 b2 b3 : Nat) (w : World) (k1 : w.cell? ⟨b1, 0, none⟩ = some (.int .i64 L)) (k2 : w.cell? ⟨b2, 0, none⟩ = some (.int .i64 s)) (k3 : w.cell? ⟨b3, 0, none⟩ = some (.int .i64 t)) : Calls Try.prog 38 #[.int .i64 m, .pointer (some ⟨b1, 0, none⟩), .pointer (some ⟨b2, 0, none⟩), .pointer (some ⟨b3, 0, none⟩)] w fun e w' => e = .returned (.bool (nearI L s t m)) ∧ w = w' := by
  have r0 := Int.emod_nonneg (m + s) (show L ≠ 0 by omega)
  have r1 := Int.emod_lt_of_pos (m + s) (show 0 < L by omega)
  have hn : nearI L s t m = decide (min ((m + s) % L) (L - (m + s) % L) < t) := rfl
  rw [hn]
  clear hn
  have HM := Lib.hid (moved_c m L s hL hL' hp hp' hs hs')
  generalize (m + s) % L = r at *
  go_enter Try.func38, Try.ntmps38
  go_wp2_with (go_at_call 34; (refine (HM.out _).mono ?_); rintro e w' ⟨rfl, rfl⟩)
  go_ret
  simp
theorem indexFuncSf_c (A : Option Addr) (c : Nat) (xs : List Int) (hn : xs.length ≤ 1048576) (w : World) (hr : RowI w A xs) (L s t : Int) (hL : 1 ≤ L) (hL' : L ≤ 4000000) (hs : -4000000 ≤ s) (hs' : s ≤ 4000000) (hall : ∀ k, k < xs.length → 0 ≤ nth xs k ∧ nth xs k ≤ L - 1) (b1 b2 b3 : Nat) (k1 : w.cell? ⟨b1, 0, none⟩ = some (.int .i64 L)) (k2 : w.cell? ⟨b2, 0, none⟩ = some (.int .i64 s)) (k3 : w.cell? ⟨b3, 0, none⟩ = some (.int .i64 t)) : Calls Try.prog 66 #[.slice A xs.length c, .func (.func 38) #[] #[.pointer (some ⟨b1, 0, none⟩), .pointer (some ⟨b2, 0, none⟩), .pointer (some ⟨b3, 0, none⟩)]] w (IdxPost (xs.any (nearI L s t)) w) := by
  have HA0 := Lib.hid hall
  go_enter Try.func66, Try.ntmps66
  go_wp2
  go_loop [8] (fun v => ∃ k : Nat, k ≤ xs.length ∧ v = .int .i64 k ∧ Hid (∀ j, j < k → nearI L s t (nth xs j) = false)) (fun v => xs.length - (intOf v).toNat)
  case atStart => exact ⟨0, by omega, rfl, Lib.hid (fun j hj => by omega)⟩
  case round =>
    obtain ⟨k, hk, rfl, HK⟩ := hrel
    by_cases hlt : k < xs.length
    · obtain ⟨b, off, rfl, hb, hc⟩ := hr.at_ hlt
      obtain ⟨v0, v1⟩ := HA0.out k hlt
      cases hp : nearI L s t (nth xs k)
      · have HN := Lib.hid (show ∀ j, j < k + 1 → nearI L s t (nth xs j) = false from fun j hj => by
          rcases Nat.lt_or_ge j k with h1 | h1
          · exact HK.out j h1
          · obtain rfl : j = k := by omega
            exact hp)
        go_wp2_with (go_at_call 38; go_call (shift1_c _ L s t hL hL' (by omega) (by omega) hs hs' b1 b2 b3 _ k1 k2 k3); rintro e w' ⟨rfl, rfl⟩)
        go_round
        case rel => exact ⟨k + 1, by omega, by go_num, HN⟩
        case measure => simp [intOf]; omega
      · have HA := Lib.hid (any_of hlt hp)
        go_wp2_with (go_at_call 38; go_call (shift1_c _ L s t hL hL' (by omega) (by omega) hs hs' b1 b2 b3 _ k1 k2 k3); rintro e w' ⟨rfl, rfl⟩)
        go_ret
        exact ⟨k, rfl, by rw [HA.out]; simp, rfl⟩
    · obtain rfl : k = xs.length := by omega
      have HA := Lib.hid (any_none HK.out)
      go_wp2
      go_ret
      exact ⟨-1, rfl, by rw [HA.out]; simp, rfl⟩
theorem containsFuncSf_c (A : Option Addr) (c : Nat) (xs : List Int) (hn : xs.length ≤ 1048576) (w : World) (hr : RowI w A xs) (L s t : Int) (hL : 1 ≤ L) (hL' : L ≤ 4000000) (hs : -4000000 ≤ s) (hs' : s ≤ 4000000) (hall : ∀ k, k < xs.length → 0 ≤ nth xs k ∧ nth xs k ≤ L - 1) (b1 b2 b3 : Nat) (k1 : w.cell? ⟨b1, 0, none⟩ = some (.int .i64 L)) (k2 : w.cell? ⟨b2, 0, none⟩ = some (.int .i64 s)) (k3 : w.cell? ⟨b3, 0, none⟩ = some (.int .i64 t)) : Calls Try.prog 37 #[.slice A xs.length c, .func (.func 38) #[] #[.pointer (some ⟨b1, 0, none⟩), .pointer (some ⟨b2, 0, none⟩), .pointer (some ⟨b3, 0, none⟩)]] w fun e w' => e = .returned (.bool (xs.any (nearI L s t))) ∧ w = w' := by
  have HC := Lib.hid (indexFuncSf_c A c xs hn w hr L s t hL hL' hs hs' hall b1 b2 b3 k1 k2 k3)
  generalize xs.any (nearI L s t) = b at *
  go_enter Try.func37, Try.ntmps37
  go_wp2_with (go_at_call 66; (refine HC.out.mono ?_); rintro e w' ⟨r, rfl, hr, rfl⟩)
  go_ret
  exact ⟨by simp [hr], rfl⟩
set_option maxHeartbeats 1000000 in
theorem l06Free_c (A : Option Addr) (c : Nat) (xs : List Int) (L s t : Int) (hL : 1 ≤ L) (hL' : L ≤ 4000000) (hs : 0 ≤ s) (hs' : s ≤ 4000000) (hn : xs.length ≤ 1048576) (hall : ∀ k, k < xs.length → 0 ≤ nth xs k ∧ nth xs k ≤ L - 1) (w : World) (hr : RowI w A xs) : Calls Try.prog 36 #[.slice A xs.length c, .int .i64 L, .int .i64 s, .int .i64 t] w fun e w' => e = .returned (.bool (freeB xs L t s)) ∧ w = w' := by
  have HA := Lib.hid hall
  clear hall
  go_enter Try.func36, Try.ntmps36
  go_wp2
  go_loop [9] (fun v => ∃ k : Nat, k ≤ xs.length ∧ v = .int .i64 k ∧ Hid (∀ j, j < k → nearI L s t (nth xs j) = false)) (fun v => xs.length - (intOf v).toNat)
  case atStart => exact ⟨0, by omega, rfl, Lib.hid (fun j hj => by omega)⟩
  case round =>
    obtain ⟨k, hk, rfl, HK⟩ := hrel
    by_cases hlt : k < xs.length
    · obtain ⟨b, off, rfl, hb, hc⟩ := hr.at_ hlt
      obtain ⟨v0, v1⟩ := HA.out k hlt
      have i1 : (k : Int) < xs.length := by omega
      have l0 : ¬ L = 0 := by omega
      have HE := Lib.hid (show (nth xs k + s).tmod L = (nth xs k + s) % L from Int.tmod_eq_emod_of_nonneg (by omega))
      have he := HE.out
      have r0 := Int.emod_nonneg (nth xs k + s) (show L ≠ 0 by omega)
      have r1 := Int.emod_lt_of_pos (nth xs k + s) (show 0 < L by omega)
      cases hp : nearI L s t (nth xs k)
      · have HN := Lib.hid (show ∀ j, j < k + 1 → nearI L s t (nth xs j) = false from fun j hj => by
          rcases Nat.lt_or_ge j k with h1 | h1
          · exact HK.out j h1
          · obtain rfl : j = k := by omega
            exact hp)
        simp only [nearI, decide_eq_false_iff_not] at hp
        go_wp2_with
          (first
            | (go_at_call 65; go_call (l00Min_c _ _ _); rintro e w' ⟨rfl, rfl⟩))
        go_round
        case rel => exact ⟨k + 1, by omega, by go_num, HN⟩
        case measure => simp [intOf]; omega
      · have HR := Lib.hid (show freeB xs L t s = false by rw [freeB, any_of hlt hp]; rfl)
        simp only [nearI, decide_eq_true_eq] at hp
        go_wp2_with
          (first
            | (go_at_call 65; go_call (l00Min_c _ _ _); rintro e w' ⟨rfl, rfl⟩))
        go_ret
        exact ⟨by (rw [HR.out]) <;> rfl, rfl⟩
    · obtain rfl : k = xs.length := by omega
      have HR := Lib.hid (show freeB xs L t s = true by rw [freeB, any_none HK.out]; rfl)
      go_wp2
      go_ret
      exact ⟨by (rw [HR.out]) <;> rfl, rfl⟩
set_option maxHeartbeats 2000000 in
theorem specShiftFor_c (A : Option Addr) (cA : Nat) (xs : List Int) (x t : Int) (hx : I64 x) (hn : xs.length ≤ 1048576) (w : World) (hr : RowI w A xs) : Calls Try.prog 13 #[.slice A xs.length cA, .int .i64 x, .int .i64 t] w fun e w' => e = .returned (.tuple #[.int .i64 (fShift xs x t).1, .int .i64 (fShift xs x t).2]) ∧ Below w.heap.size w w' := by
  cases hm : marksB xs x
  · have HF := Lib.hid (show fShift xs x t = (0, 2) by simp [fShift, hm])
    go_enter Try.func13, Try.ntmps13
    go_wp2_with (first | (go_at_call 29; (refine (l06Marks_c _ _ xs x hn _ hr).mono ?_); rintro e w1 ⟨rfl, q0, rfl⟩) | (go_at_call 30; go_call (l00In_c _ _ _ _); rintro e w' ⟨rfl, rfl⟩))
    go_returns
    refine ⟨by (rw [HF.out]) <;> rfl, ?_⟩
    repeat' (first
      | (with_reducible exact Below.refl _ _)
      | (with_reducible assumption)
      | (with_reducible refine Below.alloc ?_ ?_ _)
      | (with_reducible refine Below.drew ?_)
      | (with_reducible refine bdrewN ?_ _)
      | (with_reducible refine Below.setCell ?_ ?_ _)
      | (with_reducible refine bthen (by assumption) ?_ ?_)
      | go_size)
  cases hi : inB t 0 4000000
  · have HF := Lib.hid (show fShift xs x t = (0, 2) by simp [fShift, hm, hi])
    go_enter Try.func13, Try.ntmps13
    go_wp2_with (first | (go_at_call 29; (refine (l06Marks_c _ _ xs x hn _ hr).mono ?_); rintro e w1 ⟨rfl, q0, rfl⟩) | (go_at_call 30; go_call (l00In_c _ _ _ _); rintro e w' ⟨rfl, rfl⟩))
    go_returns
    refine ⟨by (rw [HF.out]) <;> rfl, ?_⟩
    repeat' (first
      | (with_reducible exact Below.refl _ _)
      | (with_reducible assumption)
      | (with_reducible refine Below.alloc ?_ ?_ _)
      | (with_reducible refine Below.drew ?_)
      | (with_reducible refine bdrewN ?_ _)
      | (with_reducible refine Below.setCell ?_ ?_ _)
      | (with_reducible refine bthen (by assumption) ?_ ?_)
      | go_size)
  have HF := Lib.hid (show fShift xs x t = fShiftI xs x t by simp [fShift, hm, hi])
  obtain ⟨t0, t1⟩ := inB_true hi
  obtain ⟨⟨x0, x1⟩, n12, hall, hrise⟩ := marksB_true hm
  have HA := Lib.hid hall
  clear hrise
  have HB := Lib.hid (bestSh_is (xs := xs) (t := t) (show 0 < x by omega))
  cases hf0 : freeB xs x t 0
  case true =>
    have HI := Lib.hid (show fShiftI xs x t = (0, 0) by rw [fShiftI, if_pos hf0])
    go_enter Try.func13, Try.ntmps13
    go_wp2_with (first | (first | (go_at_call 29; (refine (l06Marks_c _ _ xs x hn _ hr).mono ?_); rintro e w1 ⟨rfl, q0, rfl⟩) | (go_at_call 30; go_call (l00In_c _ _ _ _); rintro e w' ⟨rfl, rfl⟩)) | (go_at_call 36; (refine (l06Free_c _ _ xs x 0 t x0 x1 (by omega) (by omega) hn hall _ (hr.drewN _)).mono ?_); rw [hf0]; rintro e w' ⟨rfl, rfl⟩))
    go_returns
    exact ⟨by (rw [HF.out, HI.out]) <;> rfl, bdrewN (Below.refl _ _) _⟩
  go_enter Try.func13, Try.ntmps13
  go_wp2_with (first | (first | (go_at_call 29; (refine (l06Marks_c _ _ xs x hn _ hr).mono ?_); rintro e w1 ⟨rfl, q0, rfl⟩) | (go_at_call 30; go_call (l00In_c _ _ _ _); rintro e w' ⟨rfl, rfl⟩)) | (go_at_call 36; (refine (l06Free_c _ _ xs x 0 t x0 x1 (by omega) (by omega) hn hall _ (hr.drewN _)).mono ?_); rw [hf0]; rintro e w' ⟨rfl, rfl⟩))
  clear hall
  go_loop [8, 9] (fun v i => ∃ k : Nat, k ≤ xs.length ∧ i = .int .i64 k ∧ v = .int .i64 (bestSh xs x t k)) (fun _ i => xs.length - (intOf i).toNat)
  case atStart => exact ⟨0, by omega, rfl, rfl⟩
  case round =>
    obtain ⟨k, hk, rfl, rfl⟩ := hrel
    by_cases hlt : k < xs.length
    · obtain ⟨b, off, rfl, hb, hc⟩ := hr.at_ hlt
      replace hc : (w.drewN q0).cell? ⟨b, off + k, none⟩ = some (.int .i64 (nth xs k)) := hc
      obtain ⟨v0, v1⟩ := HA.out k hlt
      have i1 : (k : Int) < xs.length := by omega
      have HM := Lib.hid (tmodL (t - nth xs k) x (by omega))
      obtain ⟨u0, u1⟩ := HM.out.1
      have l0 : ¬ x = 0 := by omega
      have s0 : 0 ≤ shAt xs x t k := Int.emod_nonneg _ (by omega)
      have s1 : shAt xs x t k < x := Int.emod_lt_of_pos _ (by omega)
      have e1 : ((t - nth xs k).tmod x + x).tmod x = shAt xs x t k := HM.out.2.1
      have e2 : ((t - nth xs k).tmod x + x) % x = shAt xs x t k := HM.out.2.2.1
      have e3 : ((t - nth xs k).tmod x) % x = shAt xs x t k := HM.out.2.2.2
      have HS := Lib.hid (show bestSh xs x t (k + 1) = if freeB xs x t (shAt xs x t k) = true ∧ (bestSh xs x t k < 0 ∨ shAt xs x t k < bestSh xs x t k) then shAt xs x t k else bestSh xs x t k from rfl)
      have HC := Lib.hid (l06Free_c (some ⟨b, off, none⟩) cA xs x (shAt xs x t k) t x0 x1 s0 (by omega) hn HA.out)
      generalize shAt xs x t k = sk at *
      generalize bestSh xs x t k = bk at *
      cases hfk : freeB xs x t sk
      · rw [hfk] at HC
        have HN := Lib.hid (show bestSh xs x t (k + 1) = bk by rw [HS.out, if_neg (fun h => by have h1 := h.1; rw [hfk] at h1; cases h1)])
        go_wp2_with (go_at_call 36; (refine (HC.out _ (hr.drewN _)).mono ?_); rintro e w' ⟨rfl, rfl⟩)
        go_round
        case rel => exact ⟨k + 1, by omega, by go_num, by rw [HN.out]⟩
        case measure => simp [intOf]; omega
      · rw [hfk] at HC
        by_cases hb1 : bk < 0
        · have HN := Lib.hid (show bestSh xs x t (k + 1) = sk by rw [HS.out, if_pos ⟨hfk, .inl hb1⟩])
          go_wp2_with (go_at_call 36; (refine (HC.out _ (hr.drewN _)).mono ?_); rintro e w' ⟨rfl, rfl⟩)
          go_round
          case rel => exact ⟨k + 1, by omega, by go_num, by rw [HN.out]⟩
          case measure => simp [intOf]; omega
        · by_cases hb2 : sk < bk
          · have HN := Lib.hid (show bestSh xs x t (k + 1) = sk by rw [HS.out, if_pos ⟨hfk, .inr hb2⟩])
            go_wp2_with (go_at_call 36; (refine (HC.out _ (hr.drewN _)).mono ?_); rintro e w' ⟨rfl, rfl⟩)
            go_round
            case rel => exact ⟨k + 1, by omega, by go_num, by rw [HN.out]⟩
            case measure => simp [intOf]; omega
          · have HN := Lib.hid (show bestSh xs x t (k + 1) = bk by rw [HS.out, if_neg (by omega)])
            go_wp2_with (go_at_call 36; (refine (HC.out _ (hr.drewN _)).mono ?_); rintro e w' ⟨rfl, rfl⟩)
            go_round
            case rel => exact ⟨k + 1, by omega, by go_num, by rw [HN.out]⟩
            case measure => simp [intOf]; omega
    · obtain rfl : k = xs.length := by omega
      rcases HB.out xs.length with ⟨h1, h2⟩ | ⟨h1, h2, h3, h4⟩
      · have HI := Lib.hid (show fShiftI xs x t = (0, 3) by rw [fShiftI, if_neg (by simp [hf0]), if_pos (by omega)])
        clear h2
        rw [h1]
        go_wp2
        go_returns
        exact ⟨by (rw [HF.out, HI.out]) <;> rfl, bdrewN (Below.refl _ _) _⟩
      · have HI := Lib.hid (show fShiftI xs x t = (bestSh xs x t xs.length, 0) by rw [fShiftI, if_neg (by simp [hf0]), if_neg (by omega)])
        have h5 : ¬ bestSh xs x t xs.length < 0 := by omega
        clear h2 h3 h4
        go_wp2
        go_returns
        exact ⟨by (rw [HF.out, HI.out]) <;> rfl, bdrewN (Below.refl _ _) _⟩
set_option maxHeartbeats 2000000 in
theorem implShiftFor_c (A : Option Addr) (cA : Nat) (xs : List Int) (x t : Int) (hx : I64 x) (hn : xs.length ≤ 1048576) (w : World) (hr : RowI w A xs) : Calls Try.prog 14 #[.slice A xs.length cA, .int .i64 x, .int .i64 t] w fun e w' => e = .returned (.tuple #[.int .i64 (fShift xs x t).1, .int .i64 (fShift xs x t).2]) ∧ Below w.heap.size w w' := by
  cases hm : marksB xs x
  · have HF := Lib.hid (show fShift xs x t = (0, 2) by simp [fShift, hm])
    go_enter Try.func14, Try.ntmps14
    go_wp2_with (first | (go_at_call 32; (refine (areMarks_c _ _ xs x hx hn _ (by first | exact hr | exact hr.alloc _ | exact (hr.alloc _).alloc _)).mono ?_); rintro e w1 ⟨rfl, rfl⟩) | (go_at_call 33; go_call (within_c _ _ _ _); rintro e w' ⟨rfl, rfl⟩))
    go_returns
    refine ⟨by (rw [HF.out]) <;> rfl, ?_⟩
    repeat' (first
      | (with_reducible exact Below.refl _ _)
      | (with_reducible assumption)
      | (with_reducible refine Below.alloc ?_ ?_ _)
      | (with_reducible refine Below.drew ?_)
      | (with_reducible refine bdrewN ?_ _)
      | (with_reducible refine Below.setCell ?_ ?_ _)
      | (with_reducible refine bthen (by assumption) ?_ ?_)
      | go_size)
  cases hi : inB t 0 4000000
  · have HF := Lib.hid (show fShift xs x t = (0, 2) by simp [fShift, hm, hi])
    go_enter Try.func14, Try.ntmps14
    go_wp2_with (first | (go_at_call 32; (refine (areMarks_c _ _ xs x hx hn _ (by first | exact hr | exact hr.alloc _ | exact (hr.alloc _).alloc _)).mono ?_); rintro e w1 ⟨rfl, rfl⟩) | (go_at_call 33; go_call (within_c _ _ _ _); rintro e w' ⟨rfl, rfl⟩))
    go_returns
    refine ⟨by (rw [HF.out]) <;> rfl, ?_⟩
    repeat' (first
      | (with_reducible exact Below.refl _ _)
      | (with_reducible assumption)
      | (with_reducible refine Below.alloc ?_ ?_ _)
      | (with_reducible refine Below.drew ?_)
      | (with_reducible refine bdrewN ?_ _)
      | (with_reducible refine Below.setCell ?_ ?_ _)
      | (with_reducible refine bthen (by assumption) ?_ ?_)
      | go_size)
  have HF := Lib.hid (show fShift xs x t = fShiftI xs x t by simp [fShift, hm, hi])
  obtain ⟨t0, t1⟩ := inB_true hi
  obtain ⟨⟨x0, x1⟩, n12, hall, hrise⟩ := marksB_true hm
  have HA := Lib.hid hall
  clear hrise
  have HI := Lib.hid (find_shift (xs := xs) (t := t) (show 0 < x by omega))
  have q0 : ((w.alloc (.cells #[.int .i64 x] 2)).alloc (.cells #[.int .i64 t] 2)).cell? ⟨w.heap.size, 0, none⟩ = some (.int .i64 x) := by simp
  have q1 : ((w.alloc (.cells #[.int .i64 x] 2)).alloc (.cells #[.int .i64 t] 2)).cell? ⟨w.heap.size + 1, 0, none⟩ = some (.int .i64 t) := by simp
  have hB0 : Below w.heap.size w ((w.alloc (.cells #[.int .i64 x] 2)).alloc (.cells #[.int .i64 t] 2)) := ((Below.refl _ _).alloc (Nat.le_refl _) _).alloc (by simp) _
  have hr0 : RowI ((w.alloc (.cells #[.int .i64 x] 2)).alloc (.cells #[.int .i64 t] 2)) A xs := (hr.alloc _).alloc _
  have hz0 : ((w.alloc (.cells #[.int .i64 x] 2)).alloc (.cells #[.int .i64 t] 2)).heap.size = w.heap.size + 2 := by simp
  go_enter Try.func14, Try.ntmps14
  go_wp2_with (first | (go_at_call 32; (refine (areMarks_c _ _ xs x hx hn _ (by first | exact hr | exact hr.alloc _ | exact (hr.alloc _).alloc _)).mono ?_); rintro e w1 ⟨rfl, rfl⟩) | (go_at_call 33; go_call (within_c _ _ _ _); rintro e w' ⟨rfl, rfl⟩))
  generalize ((w.alloc (.cells #[.int .i64 x] 2)).alloc (.cells #[.int .i64 t] 2)) = W at q0 q1 hB0 hr0 hz0 ⊢
  clear hall hr
  go_loopw [8, 26] (fun v i wr => ∃ k : Nat, k ≤ xs.length ∧ i = .int .i64 k ∧ Hid (OwnI 2 wr W.heap.size v (shTo xs x t k)) ∧ Below W.heap.size W wr) (fun _ i _ => xs.length - (intOf i).toNat)
  case atStart => exact ⟨0, by omega, rfl, Lib.hid (OwnI.lit1 0 (by omega) (by omega)), (Below.refl _ _).alloc (Nat.le_refl _) _⟩
  case round =>
    obtain ⟨k, hk, rfl, HO, hBr⟩ := hrel
    have hsr := hBr.size
    have hkl := shTo_len xs x t k
    by_cases hlt : k < xs.length
    · obtain ⟨b, off, hA, hbb, c1⟩ := (hr0.below hBr).at_ hlt
      subst hA
      obtain ⟨v0, v1⟩ := HA.out k hlt
      have i1 : (k : Int) < xs.length := by omega
      have p0 := (hBr.cell (p := ⟨w.heap.size, 0, none⟩) (show w.heap.size < W.heap.size by omega)).trans q0
      have p1 := (hBr.cell (p := ⟨w.heap.size + 1, 0, none⟩) (show w.heap.size + 1 < W.heap.size by omega)).trans q1
      have l0 : w.heap.size < wr.heap.size := by omega
      have l1 : w.heap.size + 1 < wr.heap.size := by omega
      have HT := Lib.hid (show (-nth xs k + t) % x = shAt xs x t k by unfold shAt; rw [show -nth xs k + t = t - nth xs k by omega])
      go_wp2_with (first
        | (at_builtin; refine wpList_push rfl _ _ 22 rfl Try.underlying22 int64_info _ rfl HO.out rfl rfl (by omega) (by omega) ?_; intro v' w3 hO' hB'; have HO' := Lib.hid hO'; clear hO')
        | (go_at_call 34; (refine (moved_c _ _ _ x0 x1 (by omega) (by omega) (by omega) (by omega) _).mono ?_); rintro e w' ⟨rfl, rfl⟩))
      go_roundw
      case rel => exact ⟨k + 1, by omega, by go_num, Lib.hid (by rw [shTo, ← HT.out]; exact HO'.out), hBr.trans hB'⟩
      case measure => simp [intOf]; omega
    · obtain rfl : k = xs.length := by omega
      obtain ⟨A', c', hv, _⟩ := HO.out.slice
      rw [hkl] at hv
      subst hv
      obtain ⟨SS, hSS⟩ : ∃ SS, sortI (shTo xs x t xs.length) = SS := ⟨_, rfl⟩
      have hsl : SS.length = xs.length + 1 := by rw [← hSS, sortI_len, hkl]
      have HSV := Lib.hid (show ∀ i, i < SS.length → 0 ≤ nth SS i ∧ nth SS i < x from fun i hi => by
        have hm := nth_mem hi
        rw [← hSS] at hm
        rcases shTo_mem.1 ((sortI_perm _).mem_iff.1 hm) with h | ⟨j, _, h⟩
        · rw [hSS] at h; omega
        · rw [hSS] at h; rw [h]; exact ⟨Int.emod_nonneg _ (by omega), Int.emod_lt_of_pos _ (by omega)⟩)
      obtain ⟨wo, rfl⟩ : ∃ wo : World, wo = wr := ⟨_, rfl⟩
      have HST := Lib.hid (sortG_c _ _ (by omega) W.heap.size wo HO.out hsr)
      rw [hSS] at HST HI
      clear hSS
      go_wp2_with (go_at_call 35; (refine HST.out.mono ?_); rintro e w3 ⟨rfl, hO', hB'⟩)
      have HR3 := hO'.row.2
      have hB3 := hBr.trans hB'
      have q0' := (hB3.cell (p := ⟨w.heap.size, 0, none⟩) (show w.heap.size < W.heap.size by omega)).trans q0
      have q1' := (hB3.cell (p := ⟨w.heap.size + 1, 0, none⟩) (show w.heap.size + 1 < W.heap.size by omega)).trans q1
      have hr3 := hr0.below hB3
      have z3 := hB3.size
      have hBw : Below w.heap.size w w3 := hB0.trans (hB3.mono (by omega))
      clear hO' hB' hB3 hr0 HO hBr q0 q1 hB0
      go_loopw [43] (fun i wr => ∃ k : Nat, k ≤ xs.length + 1 ∧ i = .int .i64 k ∧ Hid (∀ j, j < k → freeB xs x t (nth SS j) = false) ∧ Below w3.heap.size w3 wr) (fun i _ => xs.length + 1 - (intOf i).toNat)
      case atStart => exact ⟨0, by omega, rfl, Lib.hid (fun j hj => by omega), Below.refl _ _⟩
      case round =>
        obtain ⟨k, hk, rfl, HK, hBr⟩ := hrel
        have hsr2 := hBr.size
        by_cases hlt : k < SS.length
        · obtain ⟨b, off, hA, hbb, c1⟩ := (HR3.below hBr).at_ hlt
          subst hA
          obtain ⟨v0, v1⟩ := HSV.out k hlt
          have i1 : (k : Int) < (xs.length : Int) + 1 := by omega
          have i2 : (k : Int) < ((xs.length + 1 : Nat) : Int) := by omega
          have HFA := Lib.hid (fun h => find_at (p := freeB xs x t) (l := SS) (i := k) HK.out hlt h)
          have HKN := Lib.hid (show freeB xs x t (nth SS k) = false → ∀ j, j < k + 1 → freeB xs x t (nth SS j) = false from fun hf j hj => by
            rcases Nat.lt_or_ge j k with h1 | h1
            · exact HK.out j h1
            · obtain rfl : j = k := by omega
              exact hf)
          generalize nth SS k = sv at *
          have e1 : (wr.alloc (.cells #[.int .i64 sv] 2)).cell? ⟨w.heap.size, 0, none⟩ = some (.int .i64 x) := by
            rw [(((Below.refl wr.heap.size wr).alloc (Nat.le_refl _) _)).cell (show w.heap.size < wr.heap.size by omega)]
            exact (hBr.cell (show w.heap.size < w3.heap.size by omega)).trans q0'
          have e3 : (wr.alloc (.cells #[.int .i64 sv] 2)).cell? ⟨w.heap.size + 1, 0, none⟩ = some (.int .i64 t) := by
            rw [(((Below.refl wr.heap.size wr).alloc (Nat.le_refl _) _)).cell (show w.heap.size + 1 < wr.heap.size by omega)]
            exact (hBr.cell (show w.heap.size + 1 < w3.heap.size by omega)).trans q1'
          have e2 : (wr.alloc (.cells #[.int .i64 sv] 2)).cell? ⟨wr.heap.size, 0, none⟩ = some (.int .i64 sv) := by simp
          cases ha : xs.any (nearI x sv t)
          · have HE := Lib.hid (HI.out.trans (show (match SS.find? (freeB xs x t) with | some z => (z, (0 : Int)) | none => (0, 3)) = (sv, 0) by rw [HFA.out (by rw [freeB, ha]; rfl)]))
            go_wp2_with (go_at_call 37; (refine (containsFuncSf_c _ cA xs hn _ ((hr3.below hBr).alloc _) x sv t x0 x1 (by omega) (by omega) HA.out w.heap.size wr.heap.size (w.heap.size + 1) e1 e2 e3).mono ?_); rw [ha]; rintro e w' ⟨rfl, rfl⟩)
            go_returns
            exact ⟨by (rw [HF.out, HE.out]) <;> simp, hBw.trans ((hBr.alloc (Nat.le_trans (by omega) hsr2) _).mono (by omega))⟩
          · have HN := Lib.hid (HKN.out (by rw [freeB, ha]; rfl))
            go_wp2_with (go_at_call 37; (refine (containsFuncSf_c _ cA xs hn _ ((hr3.below hBr).alloc _) x sv t x0 x1 (by omega) (by omega) HA.out w.heap.size wr.heap.size (w.heap.size + 1) e1 e2 e3).mono ?_); rw [ha]; rintro e w' ⟨rfl, rfl⟩)
            go_roundw
            case rel => exact ⟨k + 1, by omega, by go_num, HN, hBr.alloc hsr2 _⟩
            case measure => simp [intOf]; omega
        · obtain rfl : k = xs.length + 1 := by omega
          have HE := Lib.hid (HI.out.trans (show (match SS.find? (freeB xs x t) with | some z => (z, (0 : Int)) | none => (0, 3)) = (0, 3) by rw [find_no (fun j hj => HK.out j (by omega))]))
          have i1 : ¬ ((xs.length + 1 : Nat) : Int) < ((xs.length + 1 : Nat) : Int) := by omega
          go_wp2
          go_returns
          exact ⟨by (rw [HF.out, HE.out]) <;> rfl, hBw.trans (hBr.mono (by omega))⟩
set_option maxHeartbeats 2000000 in
theorem walk_FnExactShiftFor (A : Option Addr) (n c : Nat) (z : List Int) (x y : Int) (w : World) (h : IntArg w A n z) (hI : I64 x) (_ : I64 y) : Calls Try.prog 4 #[.slice A n c, .int .i64 x, .int .i64 y] w fun e w' => e = .returned (.bool true) ∧ Below w.heap.size w w' := by
  obtain ⟨rfl, hmax, hr, hz⟩ := h
  clear hz
  by_cases hn : z.length ≤ 1048576
  · go_enter Try.func4, Try.ntmps4
    go_wp2_with
      (first
        | (go_at_call 8; (apply Calls.mono; focus ((apply (toInt64S_c _ _ z hn)); (all_goals (first | (with_reducible assumption) | omega | (repeat (first | (with_reducible assumption) | (with_reducible exact RowI.new _ _ _) | ((with_reducible refine RowI.new_at ?_); (simp; done)) | (with_reducible refine RowI.drewN ?_ _) | (with_reducible refine RowI.drew ?_) | (with_reducible refine RowI.alloc ?_ _) | (with_reducible refine RowI.below ?_ (by with_reducible assumption)) | (simp [*]; done))))); done)); rintro e w' ⟨rfl, rfl⟩)
        | (go_at_call 13; (apply Calls.mono; focus ((apply (specShiftFor_c _ _ z _ _ hI hn)); (all_goals (first | (with_reducible assumption) | omega | (repeat (first | (with_reducible assumption) | (with_reducible exact RowI.new _ _ _) | ((with_reducible refine RowI.new_at ?_); (simp; done)) | (with_reducible refine RowI.drewN ?_ _) | (with_reducible refine RowI.drew ?_) | (with_reducible refine RowI.alloc ?_ _) | (with_reducible refine RowI.below ?_ (by with_reducible assumption)) | (simp [*]; done))))); done)); rintro e w' ⟨rfl, hb⟩; obtain ⟨qc, qf, qz, qs⟩ := bfacts hb; (try simp only [World.size_alloc, World.size_setCell, World.size_drew, World.heap_drewN] at qs))
        | (go_at_call 14; (apply Calls.mono; focus ((apply (implShiftFor_c _ _ z _ _ hI hn)); (all_goals (first | (with_reducible assumption) | omega | (repeat (first | (with_reducible assumption) | (with_reducible exact RowI.new _ _ _) | ((with_reducible refine RowI.new_at ?_); (simp; done)) | (with_reducible refine RowI.drewN ?_ _) | (with_reducible refine RowI.drew ?_) | (with_reducible refine RowI.alloc ?_ _) | (with_reducible refine RowI.below ?_ (by with_reducible assumption)) | (simp [*]; done))))); done)); rintro e w' ⟨rfl, hb⟩; obtain ⟨qc, qf, qz, qs⟩ := bfacts hb; (try simp only [World.size_alloc, World.size_setCell, World.size_drew, World.heap_drewN] at qs))
        | (go_at_call 10; (apply Calls.mono; focus ((apply (eqInt64S_c _ _ _ _ z hn)); (all_goals (first | (with_reducible assumption) | omega | (repeat (first | (with_reducible assumption) | (with_reducible exact RowI.new _ _ _) | ((with_reducible refine RowI.new_at ?_); (simp; done)) | (with_reducible refine RowI.drewN ?_ _) | (with_reducible refine RowI.drew ?_) | (with_reducible refine RowI.alloc ?_ _) | (with_reducible refine RowI.below ?_ (by with_reducible assumption)) | (simp [*]; done))))); done)); rintro e w' ⟨rfl, nq, rfl⟩))
    go_returns
    refine ⟨by simp, ?_⟩
    repeat' (first
      | (with_reducible exact Below.refl _ _)
      | (with_reducible assumption)
      | (with_reducible refine Below.alloc ?_ ?_ _)
      | (with_reducible refine Below.drew ?_)
      | (with_reducible refine bdrewN ?_ _)
      | (with_reducible refine Below.setCell ?_ ?_ _)
      | (with_reducible refine bthen (by assumption) ?_ ?_)
      | go_size)
  · go_enter Try.func4, Try.ntmps4
    go_wp2
    go_returns
    refine ⟨by simp, ?_⟩
    repeat' (first
      | (with_reducible exact Below.refl _ _)
      | (with_reducible assumption)
      | (with_reducible refine Below.alloc ?_ ?_ _)
      | (with_reducible refine Below.drew ?_)
      | (with_reducible refine bdrewN ?_ _)
      | (with_reducible refine Below.setCell ?_ ?_ _)
      | (with_reducible refine bthen (by assumption) ?_ ?_)
      | go_size)
end Go.Proofs.Yteddchnmjppdeaa
