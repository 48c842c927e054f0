/- slices.Sort at lists of at most 12 numbers. -/
import Derived.Test.YteddchnmjppdeaaOW
import Derived.Sort.LotA
import Derived.BigQuiet
namespace Go.Proofs.Yteddchnmjppdeaa
open Go.ChangeShapes Go.WideShapes Go.ChangeAt Go.RowKit Go.Sort
set_option linter.unusedVariables false
set_option linter.unusedSimpArgs false

/-- The sorted list. -/
def sortI (xs : List Int) : List Int := xs.mergeSort (fun x y => !ltInt y x)
theorem sortI_perm (xs : List Int) : (sortI xs).Perm xs := List.mergeSort_perm _ _
theorem sortI_len (xs : List Int) : (sortI xs).length = xs.length := (sortI_perm xs).length_eq
theorem sortI_le (xs : List Int) : (sortI xs).Pairwise (fun a b => a ≤ b) := by
  have h := List.pairwise_mergeSort (le := fun x y => !ltInt y x) (fun a b c h1 h2 => by
    simp only [ltInt, Bool.not_eq_true', decide_eq_false_iff_not] at *; omega) (fun a b => by
    simp only [ltInt, Bool.or_eq_true, Bool.not_eq_true', decide_eq_false_iff_not]; omega) xs
  refine h.imp ?_
  intro a b hab
  simp only [ltInt, Bool.not_eq_true', decide_eq_false_iff_not] at hab
  omega
theorem sortI_eq {xs ys : List Int} (hp : ys.Perm xs) (hs : ys.Pairwise (fun a b => a ≤ b)) : ys = sortI xs :=
  List.Perm.eq_of_pairwise (le := fun a b => a ≤ b) (fun a b _ _ h1 h2 => by omega) hs (sortI_le xs) (hp.trans (sortI_perm xs).symm)
theorem isort_eq (xs : List Int) : (insertionSort ltInt xs.toArray 0 xs.length).toList = sortI xs := by
  obtain ⟨hP, hS⟩ := insertionSort_holds swo_ltInt xs.toArray 0 xs.length (by omega) (by simp)
  have h := sorted_unique_holds swo_ltInt (fun x y h1 h2 => by simp only [ltInt, decide_eq_false_iff_not] at h1 h2; omega) xs.toArray _ (by simpa using hP) (by simpa using hS)
  rw [h]
  rfl
theorem arr_nth (ys : List Int) (i : Nat) : ys.toArray[i]! = nth ys i := by
  unfold nth
  simp [List.getD_eq_getElem?_getD]
theorem insI_go (ys : List Int) (j : Nat) (hl : nth ys (j + 1) < nth ys j) : insInner ltInt 0 (j + 1) ys.toArray = insInner ltInt 0 j ((ys.set (j + 1) (nth ys j)).set j (nth ys (j + 1))).toArray := by
  rw [insInner, if_pos (by simp only [arr_nth, ltInt]; simp [hl])]
  congr 1
  unfold swp
  rw [arr_nth, arr_nth]
  simp
theorem insI_stop (ys : List Int) (j : Nat) (hl : j = 0 ∨ ∃ i, j = i + 1 ∧ ¬ nth ys (i + 1) < nth ys i) : insInner ltInt 0 j ys.toArray = ys.toArray := by
  rcases hl with rfl | ⟨i, rfl, h⟩
  · rw [insInner]
  · rw [insInner, if_neg (by simp only [arr_nth, ltInt]; simp [h])]
theorem insO_go (n i : Nat) (ys : List Int) (h : i < n) : insOuter ltInt 0 n i ys.toArray = insOuter ltInt 0 n (i + 1) (insInner ltInt 0 i ys.toArray) := by rw [insOuter, if_pos h]
theorem insO_stop (n i : Nat) (ys : List Int) (h : ¬ i < n) : insOuter ltInt 0 n i ys.toArray = ys.toArray := by rw [insOuter, if_neg h]
theorem isNaN_c (a : Int) (w : World) : Calls Try.prog 93 #[.int .i64 a] w fun e w' => e = .returned (.bool false) ∧ w = w' := by
  go_enter Try.func93, Try.ntmps93
  go_wp2
  go_ret
  simp
theorem less_c (a b : Int) (w : World) : Calls Try.prog 81 #[.int .i64 a, .int .i64 b] w fun e w' => e = .returned (.bool (decide (a < b))) ∧ w = w' := by
  go_enter Try.func81, Try.ntmps81
  go_wp2_with
    (first
      | (go_at_call 93; go_call (isNaN_c _ _); rintro e w' ⟨rfl, rfl⟩))
  go_ret
  simp
set_option maxRecDepth 100000 in
set_option maxHeartbeats 2000000 in
theorem insSort_c (g n c : Nat) (xs : List Int) (hl : xs.length = n) (h12 : n ≤ 12) (B : Nat) (w : World) (h : OwnI 2 w B (.slice (some ⟨g, 0, none⟩) n c) xs) : Calls Try.prog 75 #[.slice (some ⟨g, 0, none⟩) n c, .int .i64 0, .int .i64 n] w fun e w' => e = .returned (.tuple #[]) ∧ OwnI 2 w' B (.slice (some ⟨g, 0, none⟩) n c) (insertionSort ltInt xs.toArray 0 n).toList ∧ Below B w w' := by
  have HH := Lib.hid h
  have hw0 : B ≤ w.heap.size := Nat.le_trans (h.lt g rfl).1 (Nat.le_of_lt (h.lt g rfl).2)
  clear h
  obtain ⟨R, hR⟩ : ∃ R, insertionSort ltInt xs.toArray 0 n = R := ⟨_, rfl⟩
  rw [hR]
  unfold insertionSort at hR
  have HR := Lib.hid hR
  clear hR
  go_enter Try.func75, Try.ntmps75
  go_wp2
  go_loopw [6] (fun v wr => ∃ (i : Nat) (ys : List Int), 1 ≤ i ∧ i ≤ n + 1 ∧ v = .int .i64 i ∧ ys.length = n ∧ Hid (insOuter ltInt 0 n i ys.toArray = R) ∧ Hid (OwnI 2 wr B (.slice (some ⟨g, 0, none⟩) n c) ys) ∧ Below B w wr) (fun v _ => n + 1 - (intOf v).toNat)
  case atStart => exact ⟨1, xs, by omega, by omega, by go_num, hl, HR, HH, Below.refl _ _⟩
  case round =>
    obtain ⟨i, ys, hi1, hi2, rfl, hyl, HO, HW, hBr⟩ := hrel
    by_cases hlt : i < n
    · have i1 : (i : Int) < n := by omega
      obtain ⟨wo, rfl⟩ : ∃ wo : World, wo = wr := ⟨_, rfl⟩
      have HO1 := Lib.hid ((insO_go n i ys hlt).symm.trans HO.out)
      go_wp2
      go_loopw [7] (fun v wr => ∃ (j : Nat) (zs : List Int), j ≤ i ∧ v = .int .i64 j ∧ zs.length = n ∧ Hid (insOuter ltInt 0 n (i + 1) (insInner ltInt 0 j zs.toArray) = R) ∧ Hid (OwnI 2 wr B (.slice (some ⟨g, 0, none⟩) n c) zs) ∧ Below B w wr) (fun v _ => (intOf v).toNat)
      case atStart => exact ⟨i, ys, by omega, rfl, hyl, HO1, HW, hBr⟩
      case round =>
        obtain ⟨j, zs, hj, rfl, hzl, HI, HZ, hBz⟩ := hrel
        rcases j with _ | j
        · have HN := Lib.hid (show insOuter ltInt 0 n (i + 1) zs.toArray = R by rw [← HI.out, insI_stop zs 0 (.inl rfl)])
          have q0 : decide ((0 : Int) < 0) = false := by simp
          go_wp2
          go_quiet ((first
              | (go_at_call 81; exact quiet_left (less_c _ _ _))
              | (go_at_call 81; exact quiet_add_left (less_c _ _ _))))
          go_wp2
          go_roundw
          case rel => exact ⟨i + 1, zs, by omega, by omega, by go_num, hzl, HN, Lib.hid (HZ.out.drewN _), bdrewN hBz _⟩
          case measure => simp [intOf]; omega
        · obtain ⟨_, hcl⟩ := HZ.out.row
          obtain ⟨g', off', e1, hgl, c1⟩ := hcl.at_ (show j + 1 < zs.length by omega)
          obtain ⟨g'', off'', e2, _, c0⟩ := hcl.at_ (show j < zs.length by omega)
          simp only [Option.some.injEq, Addr.mk.injEq, and_true] at e1 e2
          obtain ⟨rfl, rfl⟩ := e1
          obtain ⟨rfl, rfl⟩ := e2
          rw [Nat.zero_add] at c1 c0
          have f1 := HZ.out.free (j + 1)
          have f0 := HZ.out.free j
          have q0 : decide ((0 : Int) < (j : Int) + 1) = true := by first | (simp; done) | (simp; omega)
          have q0' : (0 : Int) < (j : Int) + 1 := by omega
          have jn : (j : Int) + 1 < n := by omega
          have jn' : (j : Int) < n := by omega
          have ja : (j : Int) + 1 - 1 = j := by omega
          cases hd : decide (nth zs (j + 1) < nth zs j)
          · have hd' : ¬ nth zs (j + 1) < nth zs j := by simpa using hd
            have HN := Lib.hid (show insOuter ltInt 0 n (i + 1) zs.toArray = R by rw [← HI.out, insI_stop zs (j + 1) (.inr ⟨j, rfl, hd'⟩)])
            go_wp2
            go_quiet ((first
                | (go_at_call 81; exact quiet_left (less_c _ _ _))
                | (go_at_call 81; exact quiet_add_left (less_c _ _ _))))
            go_wp2
            go_roundw
            case rel => exact ⟨i + 1, zs, by omega, by omega, by go_num, hzl, HN, Lib.hid (HZ.out.drewN _), bdrewN hBz _⟩
            case measure => simp [intOf]; omega
          · have hd' : nth zs (j + 1) < nth zs j := by simpa using hd
            have HN := Lib.hid ((congrArg (insOuter ltInt 0 n (i + 1)) (insI_go zs j hd')).symm.trans HI.out)
            generalize hya : nth zs (j + 1) = ya at *
            generalize hyb : nth zs j = yb at *
            go_wp2
            go_quiet ((first
                | (go_at_call 81; exact quiet_left (less_c _ _ _))
                | (go_at_call 81; exact quiet_add_left (less_c _ _ _))))
            go_wp2
            go_region
            all_goals go_wp2
            have HS := Lib.hid ((HZ.out.drewN (nq + 1)).store (j + 1) yb)
            have HS2 := Lib.hid (HS.out.1.store j ya)
            go_roundw
            case rel => exact ⟨j, _, by omega, by go_num, by rw [List.length_set, List.length_set]; exact hzl, HN, Lib.hid HS2.out.1, ((bdrewN hBz _).trans HS.out.2).trans HS2.out.2⟩
            case measure => first | (simp [intOf]; done) | (simp [intOf]; omega)
    · have HN := Lib.hid (show ys.toArray = R by rw [← HO.out, insO_stop n i ys hlt])
      go_wp2
      go_returns
      exact ⟨by simp, by rw [← HN.out]; exact HW.out, hBr⟩
set_option maxRecDepth 100000 in
set_option maxHeartbeats 4000000 in
theorem len64_c (x : Nat) (hx : x ≤ 12) (w : World) : Calls Try.prog 85 #[.int .u64 x] w fun e w' => (∃ r : Int, e = .returned (.int .i64 r)) ∧ w = w' := by
  have h : x = 0 ∨ x = 1 ∨ x = 2 ∨ x = 3 ∨ x = 4 ∨ x = 5 ∨ x = 6 ∨ x = 7 ∨ x = 8 ∨ x = 9 ∨ x = 10 ∨ x = 11 ∨ x = 12 := by omega
  rcases h with rfl | rfl | rfl | rfl | rfl | rfl | rfl | rfl | rfl | rfl | rfl | rfl | rfl
  all_goals
    go_enter Try.func85, Try.ntmps85
    go_wp2
    go_ret
    exact ⟨⟨_, rfl⟩, rfl⟩
theorem bitsLen_c (x : Nat) (hx : x ≤ 12) (w : World) : Calls Try.prog 64 #[.int .u64 x] w fun e w' => (∃ r : Int, e = .returned (.int .i64 r)) ∧ w = w' := by
  go_enter Try.func64, Try.ntmps64
  go_wp2_with (go_at_call 85; (refine (len64_c x hx _).mono ?_); rintro e w' ⟨⟨r, rfl⟩, rfl⟩)
  go_ret
  exact ⟨⟨_, rfl⟩, rfl⟩
set_option maxHeartbeats 1000000 in
theorem pdq_c (v : Value) (n : Nat) (h12 : n ≤ 12) (r : Int) (w : World) (Q : World → Prop) (h : Calls Try.prog 75 #[v, .int .i64 0, .int .i64 n] w fun e w' => e = .returned (.tuple #[]) ∧ Q w') : Calls Try.prog 63 #[v, .int .i64 0, .int .i64 n, .int .i64 r] w fun e w' => e = .returned (.tuple #[]) ∧ Q w' := by
  have HH := Lib.hid h
  clear h
  have i1 : (n : Int) ≤ 12 := by omega
  go_enter Try.func63, Try.ntmps63
  go_wp2
  go_loopw [1, 2] (fun a b wr => a = .int .i64 0 ∧ b = .int .i64 n ∧ wr = w) (fun _ _ _ => 0)
  case atStart => exact ⟨rfl, rfl, rfl⟩
  case round =>
    obtain ⟨rfl, rfl, rfl⟩ := hrel
    go_wp2_with (go_at_call 75; (refine HH.out.mono ?_); rintro e w' ⟨rfl, hQ⟩)
    go_returns
    exact ⟨by simp, hQ⟩
theorem insNil_c (w : World) : Calls Try.prog 75 #[.slice none 0 0, .int .i64 0, .int .i64 (0 : Nat)] w fun e w' => e = .returned (.tuple #[]) ∧ w = w' := by
  go_enter Try.func75, Try.ntmps75
  go_wp2
  go_loopw [6] (fun a wr => a = .int .i64 1 ∧ wr = w) (fun _ _ => 0)
  case atStart => exact ⟨rfl, rfl⟩
  case round =>
    obtain ⟨rfl, rfl⟩ := hrel
    go_wp2
    go_returns
    exact ⟨by simp, rfl⟩
theorem sort_c (v : Value) (xs : List Int) (h12 : xs.length ≤ 12) (B : Nat) (w : World) (h : OwnI 2 w B v xs) (hB : B ≤ w.heap.size) : Calls Try.prog 35 #[v] w fun e w' => e = .returned (.tuple #[]) ∧ OwnI 2 w' B v (sortI xs) ∧ Below B w w' := by
  have hcon : ∀ r : Int, Calls Try.prog 63 #[v, .int .i64 0, .int .i64 xs.length, .int .i64 r] w fun e w' => e = .returned (.tuple #[]) ∧ OwnI 2 w' B v (sortI xs) ∧ Below B w w' := fun r => by
    refine pdq_c v xs.length h12 r w (fun w' => OwnI 2 w' B v (sortI xs) ∧ Below B w w') ?_
    rcases h.shape with ⟨rfl, rfl⟩ | ⟨g, c, rfl, _, _, _⟩
    · refine (insNil_c w).mono ?_
      rintro e w' ⟨rfl, rfl⟩
      exact ⟨rfl, by rw [show sortI [] = [] by simp [sortI]]; exact h, Below.refl _ _⟩
    · rw [← isort_eq]
      exact insSort_c g xs.length c xs rfl h12 B w h
  obtain ⟨A, c, rfl, _⟩ := h.slice
  have HC := Lib.hid hcon
  clear hcon h
  go_enter Try.func35, Try.ntmps35
  go_wp2_with (first | (go_at_call 64; (refine (bitsLen_c xs.length h12 _).mono ?_); rintro e w' ⟨⟨r, rfl⟩, rfl⟩) | (go_at_call 63; (refine (HC.out _).mono ?_); rintro e w' ⟨rfl, hO, hB'⟩))
  go_returns
  exact ⟨by simp, hO, hB'⟩
end Go.Proofs.Yteddchnmjppdeaa
