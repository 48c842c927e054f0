/- CheapestHours: the program's side. -/
import Derived.Test.YtbdhelekmdpbiaaCW
import Derived.Test.YtbdhelekmdpbiaaF
import Derived.Test.YtbdhelekmdpbiaaH
namespace Go.Proofs.Ytbdhelekmdpbiaa
open Go.ChangeShapes Go.WideShapes Go.ChangeAt Go.RowKit
set_option linter.unusedVariables false
set_option linter.unusedSimpArgs false

theorem int_info : (Try.prog.info? 3).map (fun i => (i.zero, i.size, i.bytes)) = some (some (.int .i64 0), 1, 8) := by kernel_rfl
theorem insNil_c (A : Option Addr) (c : Nat) (f : Value) (w : World) : Calls Try.prog 24 #[.slice A 0 c, .int .i64 0, .int .i64 0, f] w fun e w' => e = .returned (.tuple #[]) ∧ w = w' := by
  go_enter Try.func24, Try.ntmps24
  go_wp2
  go_loopw [8] (fun v wr => v = .int .i64 1 ∧ w = wr) (fun v _ => 0)
  case atStart => exact ⟨by go_num, rfl⟩
  case round =>
    obtain ⟨rfl, rfl⟩ := hrel
    go_wp2
    go_returns
    exact ⟨by simp, rfl⟩
theorem stableNil_c (A : Option Addr) (c : Nat) (f : Value) (w : World) : Calls Try.prog 22 #[.slice A 0 c, .int .i64 0, f] w fun e w' => e = .returned (.tuple #[]) ∧ w = w' := by
  go_enter Try.func22, Try.ntmps22
  go_wp2
  go_loopw [7, 8] (fun u v wr => u = .int .i64 0 ∧ v = .int .i64 20 ∧ w = wr) (fun _ _ _ => 0)
  case atStart => exact ⟨by go_num, by go_num, rfl⟩
  case round =>
    obtain ⟨rfl, rfl, rfl⟩ := hrel
    go_wp2_with (go_at_call 24; (with_reducible refine (insNil_c _ _ _ _).mono ?_); rintro ex w1 ⟨rfl, rfl⟩)
    go_loopw [6, 7, 8] (fun k u v wr => k = .int .i64 20 ∧ u = .int .i64 0 ∧ v = .int .i64 20 ∧ w = wr) (fun _ _ _ _ => 0)
    case atStart => exact ⟨by go_num, by go_num, by go_num, rfl⟩
    case round =>
      obtain ⟨rfl, rfl, rfl, rfl⟩ := hrel
      go_wp2
      go_returns
      exact ⟨by simp, rfl⟩
/-- slices.SortStableFunc: the hours by price. -/
theorem sortS_c (v : Value) (n : Nat) (xs : List Int) (hx : HrsI n xs) (B d : Nat) (ps : List Int) (hps : ps.length = n) (hn : n ≤ 60) (w : World) (hP : 0 < n → PC w B d ps) (h : OwnI 3 w B v xs) : Calls Try.prog 18 #[v, .func (.func 19) #[] #[.pointer (some ⟨d, 0, none⟩)]] w fun e w' => e = .returned (.tuple #[]) ∧ ∃ ys : List Int, Srt n ps xs ys ∧ OwnI 3 w' B v ys ∧ Below B w w' := by
  have HX := Lib.hid hx
  have HH := Lib.hid h
  have HP := Lib.hid hP
  rcases h.shape with ⟨rfl, rfl⟩ | ⟨g, c, rfl, hg, hgl, hc⟩
  · have hn0 : n = 0 := by rw [← hx.1]; rfl
    clear hx hP h
    go_enter Try.func18, Try.ntmps18
    go_wp2_with (go_at_call 22; (with_reducible refine (stableNil_c _ _ _ _).mono ?_); rintro ex w1 ⟨rfl, rfl⟩)
    go_returns
    exact ⟨by simp, [], ⟨by simp [hn0], PI.refl _ _ _, fun i j h1 h2 h3 => by omega⟩, HH.out, Below.refl _ _⟩
  · have hl := hx.1
    rw [hl] at HH ⊢
    clear hx hP h hc hg hgl hl
    by_cases hn0 : 0 < n
    · have HQ := Lib.hid (HP.out hn0)
      go_enter Try.func18, Try.ntmps18
      go_wp2_with (go_at_call 22; (with_reducible refine (stable_c g n c xs HX.out B d ps hps hn _ HQ.out HH.out).mono ?_); rintro ex w1 ⟨rfl, ys, hy, hO, hB⟩; have HY := Lib.hid hy; have HO := Lib.hid hO; have HB := Lib.hid hB; clear hy hO hB)
      go_returns
      exact ⟨by simp, ys, HY.out, HO.out, HB.out⟩
    · obtain rfl : n = 0 := by omega
      go_enter Try.func18, Try.ntmps18
      go_wp2_with (go_at_call 22; (with_reducible refine (stableNil_c _ _ _ _).mono ?_); rintro ex w1 ⟨rfl, rfl⟩)
      go_returns
      exact ⟨by simp, xs, ⟨HX.out.1, PI.refl _ _ _, fun i j h1 h2 h3 => by omega⟩, HH.out, Below.refl _ _⟩
theorem cheap1_c (n : Int) (w : World) : Calls Try.prog 14 #[.int .i64 n] w fun e w' => e = .returned (.bool (notPr n)) ∧ w = w' := by
  go_enter Try.func14, Try.ntmps14
  go_wp2_with
    (first
      | (go_at_call 15; go_call (within_c _ _ _ _); rintro e w' ⟨rfl, rfl⟩))
  all_goals (go_ret; simp [notPr])
theorem indexFuncPr_c (A : Option Addr) (c : Nat) (xs : List Int) (hn : xs.length ≤ 1048576) (w : World) (hr : RowI w A xs) : Calls Try.prog 21 #[.slice A xs.length c, .func (.func 14) #[] #[]] w (IdxPost (xs.any notPr) w) := by
  go_enter Try.func21, Try.ntmps21
  go_wp2
  go_loop [8] (fun v => ∃ k : Nat, k ≤ xs.length ∧ v = .int .i64 k ∧ Hid (∀ j, j < k → notPr (nth xs j) = false)) (fun v => xs.length - (intOf v).toNat)
  case atStart => exact ⟨0, by omega, rfl, Lib.hid (fun j hj => by omega)⟩
  case round =>
    obtain ⟨k, hk, rfl, HK⟩ := hrel
    by_cases hlt : k < xs.length
    · obtain ⟨b, off, rfl, hb, hc⟩ := hr.at_ hlt
      cases hp : notPr (nth xs k)
      · have HN := Lib.hid (show ∀ j, j < k + 1 → notPr (nth xs j) = false from fun j hj => by
          rcases Nat.lt_or_ge j k with h1 | h1
          · exact HK.out j h1
          · obtain rfl : j = k := by omega
            exact hp)
        go_wp2_with (go_at_call 14; go_call (cheap1_c _ _); rintro e w' ⟨rfl, rfl⟩)
        go_round
        case rel => exact ⟨k + 1, by omega, by go_num, HN⟩
        case measure => simp [intOf]; omega
      · have HA := Lib.hid (any_of hlt hp)
        go_wp2_with (go_at_call 14; go_call (cheap1_c _ _); rintro e w' ⟨rfl, rfl⟩)
        go_ret
        exact ⟨k, rfl, by rw [HA.out]; simp, rfl⟩
    · obtain rfl : k = xs.length := by omega
      have HA := Lib.hid (any_none HK.out)
      go_wp2
      go_ret
      exact ⟨-1, rfl, by rw [HA.out]; simp, rfl⟩
theorem containsFuncPr_c (A : Option Addr) (c : Nat) (xs : List Int) (hn : xs.length ≤ 1048576) (w : World) (hr : RowI w A xs) : Calls Try.prog 13 #[.slice A xs.length c, .func (.func 14) #[] #[]] w fun e w' => e = .returned (.bool (xs.any notPr)) ∧ w = w' := by
  have HC := Lib.hid (indexFuncPr_c A c xs hn w hr)
  generalize xs.any notPr = b at *
  go_enter Try.func13, Try.ntmps13
  go_wp2_with (go_at_call 21; (refine HC.out.mono ?_); rintro e w' ⟨r, rfl, hr, rfl⟩)
  go_ret
  exact ⟨by simp [hr], rfl⟩
theorem size_c (A : Option Addr) (n c : Nat) (hn : n ≤ 1048576) (w : World) : Calls Try.prog 17 #[.slice A n c] w fun e w' => e = .returned (.int .i64 n) ∧ w = w' := by
  go_enter Try.func17, Try.ntmps17
  go_wp2
  go_ret
  simp
theorem OwnI.made (w : World) (n B : Nat) (hB : B ≤ w.heap.size) (hn : n ≤ 1048576) : OwnI 2 (w.alloc (.cells (ints (List.replicate n 0)) 2)) B (.slice (some ⟨w.heap.size, 0, none⟩) n n) (List.replicate n 0) := by
  have h := World.ownsRow_lit (e := 2) (size := 1) w (ints (List.replicate n 0)) n hB (by unfold maxLen; omega) (by simp [ints])
  unfold OwnI
  rw [List.length_replicate]
  simpa [ints] using h
theorem made_is (n : Nat) : madeCells (Value.int .i64 0).cells (n * 1) = ints (List.replicate n 0) := by
  have h := mixA_zero (List.replicate n 0)
  rw [List.length_replicate] at h
  rw [h]
  simp [mixA, mixL]
theorem make64 (n : Nat) (hn : n ≤ 1048576) (W : World) : (Instr.makeSlice 22 (.int .i64 (n : Int)) (.int .i64 (n : Int))).run Try.prog W = .ok (.slice (some ⟨W.heap.size, 0, none⟩) n n) (W.alloc (.cells (ints (List.replicate n 0)) 2)) := by
  obtain ⟨i, hi, hz, hsz, hby⟩ := info_parts int64_info
  rw [run_make_rowN (P := Try.prog) 22 2 i (.int .i64 0) Try.underlying22 hi hz .i64 .i64 n n (Nat.le_refl _) (by rw [hby]; omega) (by omega) W, hsz, made_is]
theorem prices_of {ps : List Int} (h : ps.any notPr = false) : ∀ i, i < ps.length → 0 ≤ nth ps i ∧ nth ps i ≤ 10000 := fun i hi => by
  have := List.any_eq_false.1 h _ (nth_mem hi)
  exact inB_true (by simpa [notPr] using this)
set_option maxRecDepth 100000 in
set_option maxHeartbeats 4000000 in
theorem implCheap_c (A : Option Addr) (n c : Nat) (ps : List Int) (r e : Int) (ys : List Int) (hps : ps.length = n) (hn : n ≤ 1048576) (hys : Srt n ps (hrs n) ys) (w : World) (hR : RowI w A ps) : Calls Try.prog 6 #[.slice A n c, .int .i64 r, .int .i64 e] w fun x w' => ∃ v, x = .returned (.tuple #[v, .int .i64 (fCheap ps r e ys).2.1, .int .i64 (fCheap ps r e ys).2.2]) ∧ OwnI 2 w' w.heap.size v (fCheap ps r e ys).1 ∧ Below w.heap.size w w' := by
  have HYS := Lib.hid hys
  have HPS := Lib.hid hps
  clear hys
  have HC := Lib.hid (fun (W : World) (h : RowI W A ps) => containsFuncPr_c A c ps (by rw [hps]; exact hn) W h)
  rw [hps] at HC
  by_cases h60 : n ≤ 60
  case neg =>
    have HF := Lib.hid (fCheap_bad (r := r) (e := e) (ys := ys) (show (decide (ps.length ≤ 60) && !ps.any notPr && inB r 0 1000 && inB e 1 1000) = false by rw [hps, decide_eq_false h60]; rfl))
    have i1 : (60 : Int) < n := by omega
    clear hps
    go_enter Try.func6, Try.ntmps6
    go_wp2_with (first
    | (go_at_call 13; (refine (HC.out _ (hR.alloc _)).mono ?_); rintro x w1 ⟨rfl, rfl⟩)
    | (go_at_call 16; go_call (isShare_c _ _); rintro x w' ⟨rfl, rfl⟩)
    | (go_at_call 15; go_call (within_c _ _ _ _); rintro x w' ⟨rfl, rfl⟩)
    | (go_at_call 17; (with_reducible refine (size_c _ _ _ hn _).mono ?_); rintro x w' ⟨rfl, rfl⟩))
    go_returns
    exact ⟨_, by (rw [HF.out]) <;> rfl, by rw [HF.out]; exact OwnI.nil _ _ _, (Below.refl _ _).alloc (Nat.le_refl _) _⟩
  have i1 : ¬ (60 : Int) < n := by omega
  cases ha : ps.any notPr
  case true =>
    have HF := Lib.hid (fCheap_bad (r := r) (e := e) (ys := ys) (show (decide (ps.length ≤ 60) && !ps.any notPr && inB r 0 1000 && inB e 1 1000) = false by rw [ha]; simp))
    rw [ha] at HC
    clear hps ha
    go_enter Try.func6, Try.ntmps6
    go_wp2_with (first
    | (go_at_call 13; (refine (HC.out _ (hR.alloc _)).mono ?_); rintro x w1 ⟨rfl, rfl⟩)
    | (go_at_call 16; go_call (isShare_c _ _); rintro x w' ⟨rfl, rfl⟩)
    | (go_at_call 15; go_call (within_c _ _ _ _); rintro x w' ⟨rfl, rfl⟩)
    | (go_at_call 17; (with_reducible refine (size_c _ _ _ hn _).mono ?_); rintro x w' ⟨rfl, rfl⟩))
    go_returns
    exact ⟨_, by (rw [HF.out]) <;> rfl, by rw [HF.out]; exact OwnI.nil _ _ _, (Below.refl _ _).alloc (Nat.le_refl _) _⟩
  cases hr : inB r 0 1000
  · have HF := Lib.hid (fCheap_bad (r := r) (e := e) (ys := ys) (show (decide (ps.length ≤ 60) && !ps.any notPr && inB r 0 1000 && inB e 1 1000) = false by rw [hr]; simp))
    rw [ha] at HC
    clear hps ha
    go_enter Try.func6, Try.ntmps6
    go_wp2_with (first
    | (go_at_call 13; (refine (HC.out _ (hR.alloc _)).mono ?_); rintro x w1 ⟨rfl, rfl⟩)
    | (go_at_call 16; go_call (isShare_c _ _); rintro x w' ⟨rfl, rfl⟩)
    | (go_at_call 15; go_call (within_c _ _ _ _); rintro x w' ⟨rfl, rfl⟩)
    | (go_at_call 17; (with_reducible refine (size_c _ _ _ hn _).mono ?_); rintro x w' ⟨rfl, rfl⟩))
    go_returns
    exact ⟨_, by (rw [HF.out]) <;> rfl, by rw [HF.out]; exact OwnI.nil _ _ _, (Below.refl _ _).alloc (Nat.le_refl _) _⟩
  cases he : inB e 1 1000
  · have HF := Lib.hid (fCheap_bad (r := r) (e := e) (ys := ys) (show (decide (ps.length ≤ 60) && !ps.any notPr && inB r 0 1000 && inB e 1 1000) = false by rw [he]; simp))
    rw [ha] at HC
    clear hps ha
    go_enter Try.func6, Try.ntmps6
    go_wp2_with (first
    | (go_at_call 13; (refine (HC.out _ (hR.alloc _)).mono ?_); rintro x w1 ⟨rfl, rfl⟩)
    | (go_at_call 16; go_call (isShare_c _ _); rintro x w' ⟨rfl, rfl⟩)
    | (go_at_call 15; go_call (within_c _ _ _ _); rintro x w' ⟨rfl, rfl⟩)
    | (go_at_call 17; (with_reducible refine (size_c _ _ _ hn _).mono ?_); rintro x w' ⟨rfl, rfl⟩))
    go_returns
    exact ⟨_, by (rw [HF.out]) <;> rfl, by rw [HF.out]; exact OwnI.nil _ _ _, (Below.refl _ _).alloc (Nat.le_refl _) _⟩
  have hok : (decide (ps.length ≤ 60) && !ps.any notPr && inB r 0 1000 && inB e 1 1000) = true := by rw [hps, ha, hr, he, decide_eq_true h60]; rfl
  obtain ⟨r0, r1⟩ := inB_true hr
  obtain ⟨e0, e1⟩ := inB_true he
  have HV := Lib.hid (prices_of ha)
  rw [ha] at HC
  obtain ⟨q, hq, q0, q1⟩ : ∃ q, e * (n : Int) = q ∧ 0 ≤ q ∧ q ≤ 60000 := by
    have := mul_bdC (show 0 ≤ e by omega) e1 (show (0 : Int) ≤ n by omega) (show (n : Int) ≤ 60 by omega)
    exact ⟨_, rfl, this.1, this.2⟩
  by_cases hf : q < r
  · have HF := Lib.hid (fCheap_full (ys := ys) hok (by rw [hps, hq]; exact hf))
    clear hps ha hok
    go_enter Try.func6, Try.ntmps6
    go_wp2_with (first
    | (go_at_call 13; (refine (HC.out _ (hR.alloc _)).mono ?_); rintro x w1 ⟨rfl, rfl⟩)
    | (go_at_call 16; go_call (isShare_c _ _); rintro x w' ⟨rfl, rfl⟩)
    | (go_at_call 15; go_call (within_c _ _ _ _); rintro x w' ⟨rfl, rfl⟩)
    | (go_at_call 17; (with_reducible refine (size_c _ _ _ hn _).mono ?_); rintro x w' ⟨rfl, rfl⟩))
    go_returns
    exact ⟨_, by (rw [HF.out]) <;> rfl, by rw [HF.out]; exact OwnI.nil _ _ _, (Below.refl _ _).alloc (Nat.le_refl _) _⟩
  have HF := Lib.hid (fCheap_good (ys := ys) hok (by rw [hps, hq]; exact hf))
  have HE := Lib.hid (lft_end (r := r) (e := e) (n := n) r0 e0 (by rw [hq]; omega))
  rw [hps] at HF
  clear hps ha hok
  go_enter Try.func6, Try.ntmps6
  go_wp2_with (first
    | (go_at_call 13; (refine (HC.out _ (hR.alloc _)).mono ?_); rintro x w1 ⟨rfl, rfl⟩)
    | (go_at_call 16; go_call (isShare_c _ _); rintro x w' ⟨rfl, rfl⟩)
    | (go_at_call 15; go_call (within_c _ _ _ _); rintro x w' ⟨rfl, rfl⟩)
    | (go_at_call 17; (with_reducible refine (size_c _ _ _ hn _).mono ?_); rintro x w' ⟨rfl, rfl⟩))
  have hc0 : (w.alloc (.cells #[.slice A n c] 22)).cell? ⟨w.heap.size, 0, none⟩ = some (.slice A n c) := by simp
  have hB0 : Below w.heap.size w (w.alloc (.cells #[.slice A n c] 22)) := (Below.refl _ _).alloc (Nat.le_refl _) _
  have hs0 : (w.alloc (.cells #[.slice A n c] 22)).heap.size = w.heap.size + 1 := by simp
  have hRW : RowI (w.alloc (.cells #[.slice A n c] 22)) A ps := hR.alloc _
  have HPC := Lib.hid (show 0 < n → PC (w.alloc (.cells #[.slice A n c] 22)) (w.heap.size + 1) w.heap.size ps from fun h => by
    obtain ⟨b, off, rfl, hb, _⟩ := hR.at_ (show 0 < ps.length by have := HPS.out; omega)
    refine ⟨_, c, by rw [HPS.out]; exact hc0, by omega, hRW, fun g o he => ?_, by have := HPS.out; omega⟩
    simp only [Option.some.injEq, Addr.mk.injEq] at he
    omega)
  clear hR HC
  generalize w.alloc (.cells #[.slice A n c] 22) = W at *
  generalize hdd : w.heap.size = d at *
  have HD := Lib.hid hdd
  clear hdd
  go_loopw [9, 40] (fun v i wr => ∃ k : Nat, k ≤ n ∧ i = .int .i64 k ∧ Hid (OwnI 3 wr (d + 1) v (hrs k)) ∧ Below (d + 1) W wr) (fun _ i _ => n - (intOf i).toNat)
  case atStart => exact ⟨0, by omega, by go_num, Lib.hid (OwnI.nil _ _ _), Below.refl _ _⟩
  case round =>
    obtain ⟨k, hk, rfl, HO, hBr⟩ := hrel
    have hsr := hBr.size
    have hkl := hrs_len k
    by_cases hlt : k < n
    · have i2 : (k : Int) < n := by omega
      go_wp2_with (at_builtin; refine wpList_push rfl _ _ 34 rfl Try.underlying34 int_info (k : Int) rfl HO.out rfl rfl (by omega) (by omega) ?_; intro v' w3 hO1 hB'; have HO' := Lib.hid hO1; clear hO1)
      go_roundw
      case rel => exact ⟨k + 1, by omega, by go_num, HO', hBr.trans hB'⟩
      case measure => simp [intOf]; omega
    · obtain rfl : k = n := by omega
      have hmk := make64 k hn
      go_wp2_with (go_at_call 18; (with_reducible refine (sortS_c _ k (hrs k) (hrsI k) (d + 1) d ps HPS.out h60 _ (fun h => (HPC.out h).below hBr) HO.out).mono ?_); rintro x w2 ⟨rfl, zs, hz, hO2, hB2⟩; have hzy := srt_one hz HYS.out; rw [hzy] at hO2; clear hz hzy; obtain ⟨A', c', e2, hrow⟩ := hO2.slice; rw [HYS.out.1] at e2; subst e2; have HROW := Lib.hid hrow; clear hrow hO2; have HBB := Lib.hid (hBr.trans hB2); have hcP : w2.cell? ⟨d, 0, none⟩ = some (.slice A k c) := (HBB.out.cell (p := ⟨d, 0, none⟩) (by simp)).trans hc0)
      clear hmk HO hBr hsr hkl hlt HPC
      have hg : d + 1 ≤ w2.heap.size := Nat.le_trans (by omega) HBB.out.size
      have HM := Lib.hid (OwnI.made w2 k w2.heap.size (Nat.le_refl _) hn)
      have HR2 := Lib.hid (show RowI w2 A ps from hRW.below (by rw [hs0]; exact HBB.out))
      clear hRW
      go_loopw [1, 12, 56] (fun a u i wr => ∃ j : Nat, j ≤ k ∧ i = .int .i64 j ∧ a = .int .i64 (lft r e j) ∧ u = .int .i64 (sums r e ps ys j) ∧ Hid (OwnI 2 wr w2.heap.size (.slice (some ⟨w2.heap.size, 0, none⟩) k k) (outs r e ys k j)) ∧ Below w2.heap.size w2 wr) (fun _ _ i _ => k - (intOf i).toNat)
      case atStart => exact ⟨0, by omega, by go_num, rfl, by go_num, HM, (Below.refl _ _).alloc (Nat.le_refl _) _⟩
      case round =>
        obtain ⟨j, hj, rfl, rfl, rfl, HO, hBr⟩ := hrel
        have hsr := hBr.size
        by_cases hlt : j < k
        · have i2 : (j : Int) < k := by omega
          obtain ⟨L0, L1⟩ := lft_bd r0 e0 j
          obtain ⟨S0, S1⟩ := sums_bd HYS.out (hrsI k) r0 e0 e1 (fun i hi => HV.out i (by rw [HPS.out]; exact hi)) j hj
          obtain ⟨y0, y1⟩ := HYS.out.bd (hrsI k) hlt
          obtain ⟨y, hy⟩ : ∃ y : Nat, nth ys j = y := ⟨(nth ys j).toNat, by omega⟩
          have yk : y < k := by omega
          have yk' : (y : Int) < k := by omega
          clear y0 y1
          obtain ⟨p0, p1⟩ := HV.out y (by rw [HPS.out]; exact yk)
          obtain ⟨b1, o1, rfl, hb1, c1⟩ := (HROW.out.below hBr).at_ (show j < ys.length by rw [HYS.out.1]; exact hlt)
          obtain ⟨b2, o2, rfl, hb2, c2'⟩ := HR2.out.at_ (show y < ps.length by rw [HPS.out]; exact yk)
          have c2 := (hBr.cell (p := ⟨b2, o2 + y, none⟩) hb2).trans c2'
          have n2 : ¬ b2 = w2.heap.size := by omega
          have n2' : ¬ w2.heap.size = b2 := by omega
          have c0 : wr.cell? ⟨d, 0, none⟩ = some (.slice (some ⟨b2, o2, none⟩) k c) := (hBr.cell (p := ⟨d, 0, none⟩) (by simp; omega)).trans hcP
          obtain ⟨_, hcl⟩ := HO.out.row
          obtain ⟨b3, o3, e3, hb3, c3⟩ := hcl.at_ (show y < (outs r e ys k j).length by rw [outs_len]; exact yk)
          simp only [Option.some.injEq, Addr.mk.injEq, and_true] at e3
          obtain ⟨rfl, rfl⟩ := e3
          rw [Nat.zero_add] at c3
          have f3 := HO.out.free y
          rw [hy] at c1
          have hd : d < w2.heap.size := by omega
          have S2 : (j : Int) * 10000000 ≤ 600000000 := by omega
          clear hcl hcP c2'
          rcases Int.lt_or_le e (lft r e j) with hm | hm
          · have hmin : min (lft r e j) e = e := by omega
            have HL := Lib.hid (show lft r e (j + 1) = lft r e j - e by rw [lft, hmin])
            have HU := Lib.hid (show sums r e ps ys (j + 1) = sums r e ps ys j + e * nth ps y by rw [sums, hmin, hy, Int.toNat_natCast])
            have HT := Lib.hid (show outs r e ys k (j + 1) = (outs r e ys k j).set y e by rw [outs, hmin, hy, Int.toNat_natCast])
            have HS1 := Lib.hid (HO.out.store y e)
            have hmul := mul_bdC (show 0 ≤ e by omega) (show e ≤ 1000 by omega) p0 p1
            clear hmin hy
            go_wp2
            go_region
            all_goals go_wp2
            go_roundw
            case rel => exact ⟨j + 1, by omega, by go_num, by (rw [HL.out]) <;> first | rfl | (congr 1; omega), by rw [HU.out], Lib.hid (by rw [HT.out]; first | exact HS1.out.1 | exact HS1.out.1.drewN 1), by first | exact (hBr.trans HS1.out.2).drew | exact bdrewN (hBr.trans HS1.out.2) 1⟩
            case measure => simp [intOf]; omega
          · have hmin : min (lft r e j) e = lft r e j := by omega
            have HL := Lib.hid (show lft r e (j + 1) = lft r e j - lft r e j by rw [lft, hmin])
            have HU := Lib.hid (show sums r e ps ys (j + 1) = sums r e ps ys j + lft r e j * nth ps y by rw [sums, hmin, hy, Int.toNat_natCast])
            have HT := Lib.hid (show outs r e ys k (j + 1) = (outs r e ys k j).set y (lft r e j) by rw [outs, hmin, hy, Int.toNat_natCast])
            have HS1 := Lib.hid (HO.out.store y (lft r e j))
            have hmul := mul_bdC (show 0 ≤ lft r e j by omega) (show lft r e j ≤ 1000 by omega) p0 p1
            clear hmin hy
            go_wp2
            go_region
            all_goals go_wp2
            go_roundw
            case rel => exact ⟨j + 1, by omega, by go_num, by (rw [HL.out]) <;> first | rfl | (congr 1; omega), by rw [HU.out], Lib.hid (by rw [HT.out]; first | exact HS1.out.1 | exact HS1.out.1.drewN 1), by first | exact (hBr.trans HS1.out.2).drew | exact bdrewN (hBr.trans HS1.out.2) 1⟩
            case measure => simp [intOf]; omega
        · obtain rfl : j = k := by omega
          go_wp2
          go_returns
          exact ⟨_, by (rw [HF.out]) <;> rfl, by rw [HF.out, HD.out]; exact HO.out.mono (by omega), by rw [HD.out]; exact hB0.trans ((HBB.out.trans (hBr.mono hg)).mono (by omega))⟩
end Go.Proofs.Ytbdhelekmdpbiaa
