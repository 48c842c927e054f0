/- MarksAfter. -/
import Derived.Test.YteddchnmjppdeaaU2
import Derived.Test.YteddchnmjppdeaaWI
import Derived.Test.YteddchnmjppdeaaSO
namespace Go.Proofs.Yteddchnmjppdeaa
open Go.ChangeShapes Go.WideShapes Go.ChangeAt Go.RowKit
set_option linter.unusedVariables false
set_option linter.unusedSimpArgs false

theorem tmodL (a L : Int) (h : 0 < L) : (-L < a.tmod L ∧ a.tmod L < L) ∧ (a.tmod L + L).tmod L = a % L ∧ (a.tmod L + L) % L = a % L ∧ (a.tmod L) % L = a % L := by
  rw [Int.add_emod_right]
  have r0 := Int.emod_nonneg a (show L ≠ 0 by omega)
  have r1 := Int.emod_lt_of_pos a h
  rcases Int.lt_or_le a 0 with ha | ha
  · have e : a.tmod L = -((-a) % L) := by
      have := Int.neg_tmod (-a) L
      rw [Int.neg_neg, Int.tmod_eq_emod_of_nonneg (show 0 ≤ -a by omega)] at this
      exact this
    have q0 := Int.emod_nonneg (-a) (show L ≠ 0 by omega)
    have q1 := Int.emod_lt_of_pos (-a) h
    refine ⟨by omega, ?_⟩
    rw [e, Int.tmod_eq_emod_of_nonneg (by omega), Int.add_emod_right, and_self_iff, and_self_iff, ← Int.add_emod_right]
    have hd := Int.emod_add_mul_ediv (-a) L
    have : a = (-((-a) % L) + L) + L * (-((-a) / L) - 1) := by
      have e2 : L * (-((-a) / L) - 1) = -(L * ((-a) / L)) - L := by rw [Int.mul_sub, Int.mul_neg, Int.mul_one]
      rw [e2]
      omega
    conv => rhs; rw [this]
    rw [Int.add_mul_emod_self_left]
  · rw [Int.tmod_eq_emod_of_nonneg ha]
    refine ⟨by omega, ?_⟩
    rw [Int.tmod_eq_emod_of_nonneg (by omega), Int.add_emod_right, and_self_iff, and_self_iff, Int.emod_emod]
theorem shift_inj {x y s L : Int} (x0 : 0 ≤ x) (x1 : x < L) (y0 : 0 ≤ y) (y1 : y < L) (h : (x + s) % L = (y + s) % L) : x = y := by
  have := (Int.emod_add_cancel_right s).1 h
  rwa [Int.emod_eq_of_lt x0 x1, Int.emod_eq_of_lt y0 y1] at this
/-- n is put into a rising list, if it is not there yet. -/
def putL (n : Int) : List Int → List Int
  | [] => [n]
  | y :: ys => if n < y then n :: y :: ys else if n = y then y :: ys else y :: putL n ys
theorem putL_len (n : Int) : ∀ l, (putL n l).length ≤ l.length + 1
  | [] => by simp [putL]
  | y :: ys => by
    have := putL_len n ys
    rw [putL]
    split
    · simp
    · split <;> simp <;> omega
theorem putL_mem {n z : Int} : ∀ {l}, z ∈ putL n l → z = n ∨ z ∈ l
  | [], h => by simpa [putL] using h
  | y :: ys, h => by
    rw [putL] at h
    split at h
    · simpa using h
    · split at h
      · exact .inr h
      · rcases List.mem_cons.1 h with h | h
        · exact .inr (by simp [h])
        · rcases putL_mem h with h | h
          · exact .inl h
          · exact .inr (List.mem_cons_of_mem _ h)
theorem putL_perm {n : Int} : ∀ {l : List Int}, n ∉ l → (putL n l).Perm (n :: l)
  | [], _ => List.Perm.refl _
  | y :: ys, h => by
    rw [putL]
    split
    · exact List.Perm.refl _
    · split
      · rename_i e
        exact absurd (by simp [e]) h
      · exact ((putL_perm (fun hm => h (List.mem_cons_of_mem _ hm))).cons y).trans (List.Perm.swap _ _ _)
theorem putL_le {n : Int} : ∀ {l : List Int}, l.Pairwise (fun a b => a ≤ b) → (putL n l).Pairwise (fun a b => a ≤ b)
  | [], _ => by simp [putL]
  | y :: ys, h => by
    obtain ⟨h1, h2⟩ := List.pairwise_cons.1 h
    rw [putL]
    split
    · refine List.pairwise_cons.2 ⟨fun z hz => ?_, h⟩
      rcases List.mem_cons.1 hz with rfl | hz
      · omega
      · have := h1 z hz
        omega
    · split
      · exact h
      · refine List.pairwise_cons.2 ⟨fun z hz => ?_, putL_le h2⟩
        rcases putL_mem hz with rfl | hz
        · omega
        · exact h1 z hz
/-- The first k marks after the shift, in their order; and put into a rising list. -/
def mvTo (xs : List Int) (L s : Int) : Nat → List Int
  | 0 => []
  | k + 1 => mvTo xs L s k ++ [(nth xs k + s) % L]
def putTo (xs : List Int) (L s : Int) : Nat → List Int
  | 0 => []
  | k + 1 => putL ((nth xs k + s) % L) (putTo xs L s k)
theorem mvTo_len (xs : List Int) (L s : Int) : ∀ k, (mvTo xs L s k).length = k
  | 0 => rfl
  | k + 1 => by rw [mvTo, List.length_append, mvTo_len xs L s k]; rfl
theorem putTo_len (xs : List Int) (L s : Int) : ∀ k, (putTo xs L s k).length ≤ k
  | 0 => by simp [putTo]
  | k + 1 => by
    have := putTo_len xs L s k
    have := putL_len ((nth xs k + s) % L) (putTo xs L s k)
    rw [putTo]
    omega
theorem mvTo_mem {xs : List Int} {L s z : Int} : ∀ {k}, z ∈ mvTo xs L s k → ∃ j, j < k ∧ z = (nth xs j + s) % L
  | 0, h => by simp [mvTo] at h
  | k + 1, h => by
    rw [mvTo, List.mem_append] at h
    rcases h with h | h
    · obtain ⟨j, hj, e⟩ := mvTo_mem h
      exact ⟨j, by omega, e⟩
    · exact ⟨k, by omega, by simpa using h⟩
theorem rise_lt {xs : List Int} (h : ∀ k, k + 1 < xs.length → nth xs k < nth xs (k + 1)) {i : Nat} : ∀ j, i < j → j < xs.length → nth xs i < nth xs j
  | 0, h1, _ => by omega
  | j + 1, h1, h2 => by
    have := h j h2
    rcases Nat.lt_or_ge i j with h3 | h3
    · have := rise_lt h j h3 (by omega)
      omega
    · obtain rfl : i = j := by omega
      exact this
theorem putTo_sort {xs : List Int} {L s : Int} (hb : ∀ k, k < xs.length → 0 ≤ nth xs k ∧ nth xs k ≤ L - 1) (h : ∀ k, k + 1 < xs.length → nth xs k < nth xs (k + 1)) : ∀ k, k ≤ xs.length → (putTo xs L s k).Perm (mvTo xs L s k) ∧ (putTo xs L s k).Pairwise (fun a b => a ≤ b)
  | 0, _ => ⟨List.Perm.refl _, List.Pairwise.nil⟩
  | k + 1, hk => by
    obtain ⟨h1, h2⟩ := putTo_sort (s := s) hb h k (by omega)
    refine ⟨?_, putL_le h2⟩
    have hn : (nth xs k + s) % L ∉ putTo xs L s k := fun hm => by
      obtain ⟨j, hj, e⟩ := mvTo_mem (h1.mem_iff.1 hm)
      have b1 := hb k (by omega)
      have b2 := hb j (by omega)
      have := shift_inj (by omega) (by omega) (by omega) (by omega) e
      have := rise_lt h k hj (by omega)
      omega
    refine (putL_perm hn).trans ?_
    rw [mvTo]
    exact ((h1.cons _)).trans (List.perm_append_comm (l₁ := [_]))
def fMarks (xs : List Int) (L s : Int) : List Int × Int := if marksB xs L then (if inB s (-4000000) 4000000 then (sortI (mvTo xs L s xs.length), 0) else ([], 2)) else ([], 2)
theorem fMarks_len (xs : List Int) (L s : Int) : (fMarks xs L s).1.length ≤ 12 := by
  unfold fMarks
  split
  · split
    · rw [sortI_len, mvTo_len]
      exact (marksB_true (by assumption)).2.1
    · simp
  · simp
theorem moved_c (p L s : Int) (hL : 1 ≤ L) (hL' : L ≤ 4000000) (hp : -4000000 ≤ p) (hp' : p ≤ 4000000) (hs : -4000000 ≤ s) (hs' : s ≤ 4000000) (w : World) : Calls Try.prog 34 #[.int .i64 p, .int .i64 L, .int .i64 s] w fun e w' => e = .returned (.int .i64 ((p + s) % L)) ∧ w = w' := by
  have HM := Lib.hid (tmodL (p + s) L (by omega))
  obtain ⟨t0, t1⟩ := HM.out.1
  have l0 : ¬ L = 0 := by omega
  go_enter Try.func34, Try.ntmps34
  go_wp2
  go_ret
  exact ⟨by first | rw [← HM.out.2.1]; rfl | rw [← HM.out.2.2.1]; rfl | rw [← HM.out.2.2.2]; rfl, rfl⟩
set_option maxHeartbeats 2000000 in
theorem l00Put_c (A : Option Addr) (c : Nat) (xs : List Int) (n : Int) (hn : xs.length ≤ 1000000) (w : World) (hr : RowI w A xs) : Calls Try.prog 31 #[.slice A xs.length c, .int .i64 n] w fun e w' => ∃ v, e = .returned v ∧ OwnI 2 w' w.heap.size v (putL n xs) ∧ Below w.heap.size w w' := by
  obtain ⟨R, hR⟩ : ∃ R, putL n xs = R := ⟨_, rfl⟩
  rw [hR]
  have HR := Lib.hid hR
  have dropk : ∀ k, k < xs.length → xs.drop k = nth xs k :: xs.drop (k + 1) := fun k hk => by
    rw [List.drop_eq_getElem_cons hk]
    congr 1
    have := nth_eq hk
    rw [List.getElem?_eq_getElem hk] at this
    injection this
  have HD := Lib.hid dropk
  clear hR dropk
  go_enter Try.func31, Try.ntmps31
  go_wp2
  go_loopw [5, 6, 7] (fun v d i wr => ∃ (k : Nat) (p : Bool) (ys : List Int), k ≤ xs.length ∧ i = .int .i64 k ∧ d = .bool p ∧ ys.length ≤ k + p.toNat ∧ Hid (R = ys ++ (if p then xs.drop k else putL n (xs.drop k))) ∧ Hid (OwnI 2 wr w.heap.size v ys) ∧ Below w.heap.size w wr) (fun _ _ i _ => xs.length - (intOf i).toNat)
  case atStart => exact ⟨0, false, [], by omega, rfl, rfl, by simp, Lib.hid (by simp [HR.out]), Lib.hid (OwnI.lit _ _ _ (Nat.le_refl _)), (Below.refl _ _).alloc (Nat.le_refl _) _⟩
  case round =>
    obtain ⟨k, p, ys, hk, rfl, rfl, hyl, HI, HO, hBr⟩ := hrel
    have hsr := hBr.size
    by_cases hlt : k < xs.length
    · obtain ⟨b, off, rfl, hb0, c0⟩ := hr.at_ hlt
      have c1 := (hBr.cell (p := ⟨b, off + k, none⟩) hb0).trans c0
      have hbb : b < wr.heap.size := by omega
      have i1 : (k : Int) < xs.length := by omega
      have hd := HD.out k hlt
      cases p
      · simp at hyl
        rcases Int.lt_trichotomy n (nth xs k) with h1 | h1 | h1
        · have HN := Lib.hid (show R = (ys ++ [n] ++ [nth xs k]) ++ xs.drop (k + 1) by rw [HI.out]; simp [hd, putL, h1])
          have q0 : n ≤ nth xs k := by omega
          clear hd
          go_wp2_with (first
            | (at_builtin; refine wpList_push rfl _ _ 22 rfl Try.underlying22 int64_info _ rfl HO'.out rfl rfl (by first | omega | (simp; omega)) (by omega) ?_; intro v'' w4 hO1 hB''; have HO'' := Lib.hid hO1; clear hO1; have z4 := hB''.size)
            | (at_builtin; refine wpList_push rfl _ _ 22 rfl Try.underlying22 int64_info _ rfl HO.out rfl rfl (by first | omega | (simp; omega)) (by omega) ?_; intro v' w3 hO1 hB'; have HO' := Lib.hid hO1; clear hO1; have z3 := hB'.size; have c1' := (hB'.cell (p := ⟨b, off + k, none⟩) hb0).trans c1; have hb3 : b < w3.heap.size := by omega))
          go_roundw
          case rel => exact ⟨k + 1, true, _, by omega, by go_num, rfl, by simp; omega, Lib.hid (by rw [HN.out]; rfl), HO'', (hBr.trans hB').trans hB''⟩
          case measure => simp [intOf]; omega
        · subst h1
          have HN := Lib.hid (show R = (ys ++ [nth xs k]) ++ xs.drop (k + 1) by rw [HI.out]; simp [hd, putL])
          have q0 : nth xs k ≤ nth xs k := by omega
          have q1 : ¬ nth xs k < nth xs k := by omega
          clear hd
          go_wp2_with (at_builtin; refine wpList_push rfl _ _ 22 rfl Try.underlying22 int64_info _ rfl HO.out rfl rfl (by first | omega | (simp; omega)) (by omega) ?_; intro v' w3 hO1 hB'; have HO' := Lib.hid hO1; clear hO1; have z3 := hB'.size)
          go_roundw
          case rel => exact ⟨k + 1, true, _, by omega, by go_num, rfl, by simp; omega, Lib.hid (by rw [HN.out]; rfl), HO', hBr.trans hB'⟩
          case measure => simp [intOf]; omega
        · have HN := Lib.hid (show R = (ys ++ [nth xs k]) ++ putL n (xs.drop (k + 1)) by rw [HI.out]; simp [hd, putL, show ¬ n < nth xs k by omega, show ¬ n = nth xs k by omega])
          have q0 : ¬ n ≤ nth xs k := by omega
          clear hd
          go_wp2_with (at_builtin; refine wpList_push rfl _ _ 22 rfl Try.underlying22 int64_info _ rfl HO.out rfl rfl (by first | omega | (simp; omega)) (by omega) ?_; intro v' w3 hO1 hB'; have HO' := Lib.hid hO1; clear hO1; have z3 := hB'.size)
          go_roundw
          case rel => exact ⟨k + 1, false, _, by omega, by go_num, rfl, by simp; omega, Lib.hid (by rw [HN.out]; rfl), HO', hBr.trans hB'⟩
          case measure => simp [intOf]; omega
      · simp at hyl
        have HN := Lib.hid (show R = (ys ++ [nth xs k]) ++ xs.drop (k + 1) by rw [HI.out]; simp [hd])
        clear hd
        go_wp2_with (at_builtin; refine wpList_push rfl _ _ 22 rfl Try.underlying22 int64_info _ rfl HO.out rfl rfl (by first | omega | (simp; omega)) (by omega) ?_; intro v' w3 hO1 hB'; have HO' := Lib.hid hO1; clear hO1; have z3 := hB'.size)
        go_roundw
        case rel => exact ⟨k + 1, true, _, by omega, by go_num, rfl, by simp; omega, Lib.hid (by rw [HN.out]; rfl), HO', hBr.trans hB'⟩
        case measure => simp [intOf]; omega
    · obtain rfl : k = xs.length := by omega
      cases p
      · simp at hyl
        have HN := Lib.hid (show R = ys ++ [n] by rw [HI.out]; simp [putL])
        go_wp2_with (at_builtin; refine wpList_push rfl _ _ 22 rfl Try.underlying22 int64_info _ rfl HO.out rfl rfl (by first | omega | (simp; omega)) (by omega) ?_; intro v' w3 hO1 hB'; have HO' := Lib.hid hO1; clear hO1; have z3 := hB'.size)
        go_returns
        exact ⟨_, by simp; rfl, by rw [HN.out]; exact HO'.out, hBr.trans hB'⟩
      · have HN := Lib.hid (show R = ys by rw [HI.out]; simp)
        go_wp2
        go_returns
        exact ⟨_, by simp; rfl, by rw [HN.out]; exact HO.out, hBr⟩
set_option maxHeartbeats 2000000 in
theorem implMarksAfter_c (A : Option Addr) (nA cA : Nat) (zA : List Int) (x y : Int) (hx : I64 x) (hzA : zA.length = nA) (hnA : nA ≤ 1048576) (w : World) (hr : RowI w A zA) : Calls Try.prog 9 #[.slice A nA cA, .int .i64 x, .int .i64 y] w fun e w' => ∃ v, e = .returned (.tuple #[v, .int .i64 (fMarks zA x y).2]) ∧ OwnI 2 w' w.heap.size v (fMarks zA x y).1 ∧ Below w.heap.size w w' := by
  subst hzA
  cases hm : marksB zA x
  · have HF := Lib.hid (show fMarks zA x y = ([], 2) by simp [fMarks, hm])
    go_enter Try.func9, Try.ntmps9
    go_wp2_with (first | (go_at_call 32; (refine (areMarks_c _ _ zA x hx hnA _ hr).mono ?_); rintro e w1 ⟨rfl, rfl⟩) | (go_at_call 33; go_call (within_c _ _ _ _); rintro e w' ⟨rfl, rfl⟩))
    go_returns
    exact ⟨_, by (rw [HF.out]) <;> rfl, by rw [HF.out]; exact OwnI.nil _ _ _, by first | exact Below.refl _ _ | exact bdrewN (Below.refl _ _) _⟩
  cases hi : inB y (-4000000) 4000000
  · have HF := Lib.hid (show fMarks zA x y = ([], 2) by simp [fMarks, hm, hi])
    go_enter Try.func9, Try.ntmps9
    go_wp2_with (first | (go_at_call 32; (refine (areMarks_c _ _ zA x hx hnA _ hr).mono ?_); rintro e w1 ⟨rfl, rfl⟩) | (go_at_call 33; go_call (within_c _ _ _ _); rintro e w' ⟨rfl, rfl⟩))
    go_returns
    exact ⟨_, by (rw [HF.out]) <;> rfl, by rw [HF.out]; exact OwnI.nil _ _ _, by first | exact Below.refl _ _ | exact bdrewN (Below.refl _ _) _⟩
  have HF := Lib.hid (show fMarks zA x y = (sortI (mvTo zA x y zA.length), 0) by simp [fMarks, hm, hi])
  obtain ⟨y0, y1⟩ := inB_true hi
  obtain ⟨⟨x0, x1⟩, n12, hall, hrise⟩ := marksB_true hm
  have HA := Lib.hid hall
  have HT := Lib.hid ((putTo_sort (s := y) hall hrise) zA.length (Nat.le_refl _))
  clear hall hrise
  go_enter Try.func9, Try.ntmps9
  go_wp2_with (first | (go_at_call 32; (refine (areMarks_c _ _ zA x hx hnA _ hr).mono ?_); rintro e w1 ⟨rfl, rfl⟩) | (go_at_call 33; go_call (within_c _ _ _ _); rintro e w' ⟨rfl, rfl⟩))
  go_loopw [8, 22] (fun v i wr => ∃ k : Nat, k ≤ zA.length ∧ i = .int .i64 k ∧ Hid (OwnI 2 wr w.heap.size v (mvTo zA x y k)) ∧ Below w.heap.size w wr) (fun _ i _ => zA.length - (intOf i).toNat)
  case atStart => exact ⟨0, by omega, rfl, Lib.hid (OwnI.nil _ _ _), Below.refl _ _⟩
  case round =>
    obtain ⟨k, hk, rfl, HO, hBr⟩ := hrel
    have hsr := hBr.size
    have hkl := mvTo_len zA x y k
    by_cases hlt : k < zA.length
    · obtain ⟨b, off, rfl, hbb, c1⟩ := (hr.below hBr).at_ hlt
      obtain ⟨v0, v1⟩ := HA.out k hlt
      have i1 : (k : Int) < zA.length := by omega
      go_wp2_with (first
        | (at_builtin; refine wpList_push rfl _ _ 22 rfl Try.underlying22 int64_info _ rfl HO.out rfl rfl (by first | omega | (simp; omega)) (by omega) ?_; intro v' w3 hO1 hB'; have HO' := Lib.hid hO1; clear hO1; have z3 := hB'.size)
        | (go_at_call 34; (refine (moved_c _ _ _ x0 x1 (by omega) (by omega) y0 y1 _).mono ?_); rintro e w' ⟨rfl, rfl⟩))
      go_roundw
      case rel => exact ⟨k + 1, by omega, by go_num, HO', hBr.trans hB'⟩
      case measure => simp [intOf]; omega
    · obtain rfl : k = zA.length := by omega
      go_wp2_with (go_at_call 35; (refine (sort_c _ _ (by rw [mvTo_len]; exact n12) w.heap.size _ HO.out hsr).mono ?_); rintro e w3 ⟨rfl, hO', hB'⟩; have HO' := Lib.hid hO'; clear hO')
      go_returns
      exact ⟨_, by (rw [HF.out]) <;> rfl, by rw [HF.out]; exact HO'.out, hBr.trans hB'⟩
set_option maxHeartbeats 2000000 in
theorem specMarksAfter_c (A : Option Addr) (nA cA : Nat) (zA : List Int) (x y : Int) (hx : I64 x) (hzA : zA.length = nA) (hnA : nA ≤ 1048576) (w : World) (hr : RowI w A zA) : Calls Try.prog 7 #[.slice A nA cA, .int .i64 x, .int .i64 y] w fun e w' => ∃ v, e = .returned (.tuple #[v, .int .i64 (fMarks zA x y).2]) ∧ OwnI 2 w' w.heap.size v (fMarks zA x y).1 ∧ Below w.heap.size w w' := by
  subst hzA
  cases hm : marksB zA x
  · have HF := Lib.hid (show fMarks zA x y = ([], 2) by simp [fMarks, hm])
    go_enter Try.func7, Try.ntmps7
    go_wp2_with (first | (go_at_call 29; (refine (l06Marks_c _ _ zA x hnA _ hr).mono ?_); rintro e w1 ⟨rfl, q0, rfl⟩) | (go_at_call 30; go_call (l00In_c _ _ _ _); rintro e w' ⟨rfl, rfl⟩))
    go_returns
    exact ⟨_, by (rw [HF.out]) <;> rfl, by rw [HF.out]; exact OwnI.nil _ _ _, by first | exact Below.refl _ _ | exact bdrewN (Below.refl _ _) _⟩
  cases hi : inB y (-4000000) 4000000
  · have HF := Lib.hid (show fMarks zA x y = ([], 2) by simp [fMarks, hm, hi])
    go_enter Try.func7, Try.ntmps7
    go_wp2_with (first | (go_at_call 29; (refine (l06Marks_c _ _ zA x hnA _ hr).mono ?_); rintro e w1 ⟨rfl, q0, rfl⟩) | (go_at_call 30; go_call (l00In_c _ _ _ _); rintro e w' ⟨rfl, rfl⟩))
    go_returns
    exact ⟨_, by (rw [HF.out]) <;> rfl, by rw [HF.out]; exact OwnI.nil _ _ _, by first | exact Below.refl _ _ | exact bdrewN (Below.refl _ _) _⟩
  have HF := Lib.hid (show fMarks zA x y = (sortI (mvTo zA x y zA.length), 0) by simp [fMarks, hm, hi])
  obtain ⟨y0, y1⟩ := inB_true hi
  obtain ⟨⟨x0, x1⟩, n12, hall, hrise⟩ := marksB_true hm
  have HA := Lib.hid hall
  have HT := Lib.hid ((putTo_sort (s := y) hall hrise) zA.length (Nat.le_refl _))
  clear hall hrise
  go_enter Try.func7, Try.ntmps7
  go_wp2_with (first | (go_at_call 29; (refine (l06Marks_c _ _ zA x hnA _ hr).mono ?_); rintro e w1 ⟨rfl, q0, rfl⟩) | (go_at_call 30; go_call (l00In_c _ _ _ _); rintro e w' ⟨rfl, rfl⟩))
  go_loopw [8, 9] (fun v i wr => ∃ k : Nat, k ≤ zA.length ∧ i = .int .i64 k ∧ Hid (OwnI 2 wr w.heap.size v (putTo zA x y k)) ∧ Below w.heap.size w wr) (fun _ i _ => zA.length - (intOf i).toNat)
  case atStart => exact ⟨0, by omega, rfl, Lib.hid (OwnI.lit _ _ _ (Nat.le_refl _)), (bdrewN (Below.refl _ _) _).alloc (Nat.le_refl _) _⟩
  case round =>
    obtain ⟨k, hk, rfl, HO, hBr⟩ := hrel
    have hsr := hBr.size
    have hkl := putTo_len zA x y k
    by_cases hlt : k < zA.length
    · obtain ⟨b, off, rfl, hbb, c1⟩ := (hr.below hBr).at_ hlt
      obtain ⟨v0, v1⟩ := HA.out k hlt
      have i1 : (k : Int) < zA.length := by omega
      obtain ⟨A', c', rfl, hR'⟩ := HO.out.slice
      have HM := Lib.hid (tmodL (nth zA k + y) x (by omega))
      obtain ⟨t0, t1⟩ := HM.out.1
      have l0 : ¬ x = 0 := by omega
      go_wp2_with (go_at_call 31; (refine (l00Put_c A' c' (putTo zA x y k) _ (by omega) _ hR').mono ?_); rintro e w3 ⟨v', rfl, hO', hB'⟩; have HO' := Lib.hid (hO'.mono hsr); clear hO')
      go_roundw
      case rel => exact ⟨k + 1, by omega, by go_num, Lib.hid (by have h := HO'.out; first | rwa [HM.out.2.1] at h | rwa [HM.out.2.2.1] at h | rwa [HM.out.2.2.2] at h), hBr.trans (hB'.mono hsr)⟩
      case measure => simp [intOf]; omega
    · obtain rfl : k = zA.length := by omega
      have HE := Lib.hid (sortI_eq HT.out.1 HT.out.2)
      go_wp2
      go_returns
      exact ⟨_, by (rw [HF.out]) <;> rfl, by rw [HF.out]; show OwnI _ _ _ _ (sortI _); rw [← HE.out]; exact HO.out, hBr⟩
set_option maxHeartbeats 4000000 in
theorem walk_FnExactMarksAfter (A : Option Addr) (nA cA : Nat) (zA : List Int) (x : Int) (y : Int) (w : World) (hA : IntArg w A nA zA) (_ : I64 x) (_ : I64 y) : Calls Try.prog 3 #[.slice A nA cA, .int .i64 x, .int .i64 y] w fun e w' => e = .returned (.bool true) ∧ Below w.heap.size w w' := by
  obtain ⟨hzA, hxA, hrA, _⟩ := hA
  replace hzA : zA.length = nA := by omega
  by_cases hnA : nA ≤ 1048576
  case neg =>
    have hb : ¬ (nA : Int) ≤ 1048576 := by omega
    go_enter Try.func3, Try.ntmps3
    go_wp2
    go_returns
    refine ⟨by simp, ?_⟩
    exact Below.refl _ _
  have hnI : (nA : Int) ≤ 1048576 := by omega
  have hl := fMarks_len zA x y
  obtain ⟨xs, hx⟩ : ∃ xs, (fMarks zA x y).1 = xs := ⟨_, rfl⟩
  obtain ⟨q, hq⟩ : ∃ q, (fMarks zA x y).2 = q := ⟨_, rfl⟩
  have hI : I64 x := by assumption
  have hs := fun (w : World) (B : Option Addr) (hB : RowI w B zA) => specMarksAfter_c B nA nA zA x y hI hzA hnA w hB
  have hi := fun (w : World) (B : Option Addr) (hB : RowI w B zA) => implMarksAfter_c B nA nA zA x y hI hzA hnA w hB
  simp only [hx, hq] at hs hi hl
  have HS := Lib.hid (fun (w : World) {B : Option Addr} hB => hs w B hB)
  have HI := Lib.hid (fun (w : World) {B : Option Addr} hB => hi w B hB)
  clear hs hi hx hq
  have hn : xs.length ≤ 1048576 := by omega
  go_enter Try.func3, Try.ntmps3
  go_wp2_with (go_at_call 8; (refine (toInt64S_m A nA _ zA hzA hnA _ hrA).mono ?_); rintro e w1 ⟨rfl, hSA, _, hb1⟩; have z1 : w.heap.size ≤ w1.heap.size := hb1.size; have ch1_w : Below w.heap.size w w1 := hb1)
  go_wp2_with (go_at_call 7; (refine (HS.out _ hSA).mono ?_); rintro e w2 ⟨v0, rfl, hO0, hb2⟩; obtain ⟨A0, c0, rfl, hV0⟩ := hO0.slice; have z2 : w1.heap.size ≤ w2.heap.size := hb2.size; have ch2_w : Below w.heap.size w w2 := ch1_w.trans ((hb2).mono (by omega)); have ch2_w1 : Below w1.heap.size w1 w2 := hb2)
  go_wp2_with (go_at_call 8; (refine (toInt64S_m A nA _ zA hzA hnA _ (hrA.below ch2_w)).mono ?_); rintro e w3 ⟨rfl, hXA, hMA, hb3⟩; have z3 : w2.heap.size ≤ w3.heap.size := hb3.size; have zl3 : w2.heap.size < w3.heap.size := hMA.1; have HMA := Lib.hid hMA; clear hMA; have ch3_w : Below w.heap.size w w3 := ch2_w.trans ((hb3).mono (by omega)); have ch3_w2 : Below w2.heap.size w2 w3 := hb3)
  go_wp2_with (go_at_call 9; (refine (HI.out _ hXA).mono ?_); rintro e w4 ⟨v1, rfl, hO1, hb4⟩; obtain ⟨A1, c1, rfl, hG⟩ := hO1.slice; have z4 : w3.heap.size ≤ w4.heap.size := hb4.size; have HO1 := Lib.hid hO1; clear hO1; have ch4_w : Below w.heap.size w w4 := ch3_w.trans ((hb4).mono (by omega)); have ch4_w2 : Below w2.heap.size w2 w4 := ch3_w2.trans ((hb4).mono (by omega)); have ch4_w3 : Below w3.heap.size w3 w4 := hb4)
  go_wp2_with (go_at_call 10; (refine (eqInt64S_c _ _ _ _ xs hn _ hG (hV0.below ch4_w2)).mono ?_); rintro e wq ⟨rfl, n1, rfl⟩; have ch5_w : Below w.heap.size w (w4.drewN n1) := bdrewN ch4_w n1; have ch5_w2 : Below w2.heap.size w2 (w4.drewN n1) := bdrewN ch4_w2 n1; have ch5_w3 : Below w3.heap.size w3 (w4.drewN n1) := bdrewN ch4_w3 n1; have ch5_w4 : Below w4.heap.size w4 (w4.drewN n1) := bdrewN (Below.refl _ _) n1)
  have zq : ((w4.drewN n1)).heap.size = w4.heap.size := rfl
  go_wp2_with (go_at_call 8; (refine (toInt64S_m A nA _ zA hzA hnA _ (hrA.below ch5_w)).mono ?_); rintro e w5 ⟨rfl, hYA, _, hb5⟩; have z5 : (w4.drewN n1).heap.size ≤ w5.heap.size := hb5.size; have ch6_w : Below w.heap.size w w5 := ch5_w.trans ((hb5).mono (by omega)); have ch6_w2 : Below w2.heap.size w2 w5 := ch5_w2.trans ((hb5).mono (by omega)); have ch6_w3 : Below w3.heap.size w3 w5 := ch5_w3.trans ((hb5).mono (by omega)); have ch6_w4 : Below w4.heap.size w4 w5 := ch5_w4.trans ((hb5).mono (by omega)))
  go_wp2_with (go_at_call 10; (refine (eqInt64S_d _ _ nA _ _ zA hzA hnA _ (hXA.below ch6_w3) hYA).mono ?_); rintro e w6 ⟨rfl, hb6⟩; have z6 : w5.heap.size ≤ w6.heap.size := hb6.size; have ch7_w : Below w.heap.size w w6 := ch6_w.trans ((hb6).mono (by omega)); have ch7_w2 : Below w2.heap.size w2 w6 := ch6_w2.trans ((hb6).mono (by omega)); have ch7_w3 : Below w3.heap.size w3 w6 := ch6_w3.trans ((hb6).mono (by omega)); have ch7_w4 : Below w4.heap.size w4 w6 := ch6_w4.trans ((hb6).mono (by omega)))
  go_wp2_with (go_at_call 11; (refine (markInt64G_c _ nA _ (1) (by omega) (by omega) hnA _ (HMA.out.below ch7_w3)).mono ?_); rintro e w7 ⟨rfl, hg7⟩; have z7 : w6.heap.size ≤ w7.heap.size := hg7.size; have HG0 := Lib.hid (OwnI.kept (HO1.out.below ch7_w4) hg7 (by omega)); have ch8_w : Below w.heap.size w w7 := below_grown ch7_w hg7 (by omega) (by omega); have ch8_w2 : Below w2.heap.size w2 w7 := below_grown ch7_w2 hg7 (by omega) (by omega))
  go_wp2_with (go_at_call 10; (refine (eqInt64S_c _ _ _ _ xs hn _ (HG0.out).row.2 (hV0.below ch8_w2)).mono ?_); rintro e wq ⟨rfl, n2, rfl⟩; have ch9_w : Below w.heap.size w (w7.drewN n2) := bdrewN ch8_w n2; have ch9_w2 : Below w2.heap.size w2 (w7.drewN n2) := bdrewN ch8_w2 n2)
  go_wp2_with (go_at_call 11; (refine (markInt64S_c _ xs 1 w3.heap.size (by omega) (by omega) hn _ (OwnI.drewN (HG0.out) _)).mono ?_); rintro e w8 ⟨rfl, ys, hy, hm, hO6, hb8⟩; have HM := Lib.hid (show Marked 1 ys ys.length from by rw [hy]; exact hm); have HR := Lib.hid hO6.row.2; clear hm hO6; have z8 : w7.heap.size ≤ w8.heap.size := hb8.size; have ch10_w : Below w.heap.size w w8 := ch9_w.trans ((hb8).mono (by omega)); have ch10_w2 : Below w2.heap.size w2 w8 := ch9_w2.trans ((hb8).mono (by omega)))
  have hyn : ys.length ≤ 1048576 := by omega
  go_wp2_with (go_at_call 12; (refine (heldInt64S_c A1 xs.length _ ys 1 hy (by omega) (by omega) hyn HM.out _ (HR.out)).mono ?_); rintro e wh ⟨rfl, rfl⟩)
  go_wp2_with (go_at_call 8; (refine (toInt64S_m A nA _ zA hzA hnA _ (hrA.below ch10_w)).mono ?_); rintro e w9 ⟨rfl, hTA, _, hb9⟩; have z9 : w8.heap.size ≤ w9.heap.size := hb9.size; have ch11_w : Below w.heap.size w w9 := ch10_w.trans ((hb9).mono (by omega)); have ch11_w2 : Below w2.heap.size w2 w9 := ch10_w2.trans ((hb9).mono (by omega)); have ch11_w8 : Below w8.heap.size w8 w9 := hb9)
  go_wp2_with (go_at_call 9; (refine (HI.out _ hTA).mono ?_); rintro e w10 ⟨v2, rfl, hO2, hb10⟩; obtain ⟨A2, c2, rfl, hV2⟩ := hO2.slice; have z10 : w9.heap.size ≤ w10.heap.size := hb10.size; have ch12_w : Below w.heap.size w w10 := ch11_w.trans ((hb10).mono (by omega)); have ch12_w2 : Below w2.heap.size w2 w10 := ch11_w2.trans ((hb10).mono (by omega)); have ch12_w8 : Below w8.heap.size w8 w10 := ch11_w8.trans ((hb10).mono (by omega)); have ch12_w9 : Below w9.heap.size w9 w10 := hb10)
  go_wp2_with (go_at_call 10; (refine (eqInt64S_c _ _ _ _ xs hn _ hV2 (hV0.below ch12_w2)).mono ?_); rintro e wq ⟨rfl, n3, rfl⟩; have ch13_w : Below w.heap.size w (w10.drewN n3) := bdrewN ch12_w n3; have ch13_w2 : Below w2.heap.size w2 (w10.drewN n3) := bdrewN ch12_w2 n3; have ch13_w8 : Below w8.heap.size w8 (w10.drewN n3) := bdrewN ch12_w8 n3; have ch13_w9 : Below w9.heap.size w9 (w10.drewN n3) := bdrewN ch12_w9 n3)
  go_wp2_with (go_at_call 12; (refine (heldInt64S_c A1 xs.length _ ys 1 hy (by omega) (by omega) hyn HM.out _ ((HR.out.below ch13_w8))).mono ?_); rintro e wh ⟨rfl, rfl⟩)
  go_returns
  exact ⟨by simp, ch13_w⟩
end Go.Proofs.Yteddchnmjppdeaa
