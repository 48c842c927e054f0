/- HeaterHours. -/
import Derived.Test.YtelakibjcihfaaaK2
namespace Go.Proofs.Ytelakibjcihfaaa
open Go.ChangeShapes Go.WideShapes Go.ChangeAt Go.RowKit
set_option linter.unusedVariables false
set_option linter.unusedSimpArgs false

theorem anyN_succ (p : Nat → Bool) (k : Nat) : anyN p (k + 1) = (anyN p k || p k) := by
  unfold anyN
  rw [List.range_succ, List.any_append]
  simp
theorem anyN_congr {p q : Nat → Bool} : ∀ n, (∀ j, j < n → p j = q j) → anyN p n = anyN q n
  | 0, _ => rfl
  | n + 1, h => by rw [anyN_succ, anyN_succ, anyN_congr n (fun j hj => h j (by omega)), h n (by omega)]
def iceAt (z : List Int) (k : Nat) : Bool := kindB 2 (tA z k) (tB z k) (tC z k)
/-- How many hours are looked at from hour i on. -/
def spanN (n : Nat) (a : Int) (i : Nat) : Nat := min (n - i) (a.toNat + 1)
def heatB (z : List Int) (n : Nat) (a : Int) (i : Nat) : Bool := anyN (fun j => iceAt z (i + j)) (spanN n a i)
def heatTo (z : List Int) (n : Nat) (a : Int) : Nat → List Int
  | 0 => []
  | k + 1 => if heatB z n a k then heatTo z n a k ++ [(k : Int)] else heatTo z n a k
theorem heatTo_in {z : List Int} {n k : Nat} {a : Int} (h : heatB z n a k = true) : heatTo z n a (k + 1) = heatTo z n a k ++ [(k : Int)] := by rw [heatTo, if_pos h]
theorem heatTo_out {z : List Int} {n k : Nat} {a : Int} (h : heatB z n a k = false) : heatTo z n a (k + 1) = heatTo z n a k := by rw [heatTo, if_neg (by simp [h])]
theorem heatTo_len (z : List Int) (n : Nat) (a : Int) : ∀ k, (heatTo z n a k).length ≤ k
  | 0 => by simp [heatTo]
  | k + 1 => by
    have := heatTo_len z n a k
    simp only [heatTo]
    split <;> simp <;> omega
def fHeat (z : List Int) (n : Nat) (a : Int) : List Int × Int := if hoursB z n then (if inB a 0 24 then (heatTo z n a n, 0) else ([], 2)) else ([], 1)
/-- The hours from i on. -/
def cutZ (z : List Int) (i m : Nat) : List Int := (z.drop (i * 3)).take (m * 3)
theorem cutZ_length {z : List Int} {n i m : Nat} (hz : z.length = n * 3) (h : i + m ≤ n) : (cutZ z i m).length = m * 3 := by
  unfold cutZ
  rw [List.length_take, List.length_drop, hz]
  omega
theorem cutZ_nth {z : List Int} {i m t : Nat} (h : t < m * 3) : nth (cutZ z i m) t = nth z (i * 3 + t) := by
  unfold nth cutZ
  rw [List.getD_eq_getElem?_getD, List.getElem?_take, if_pos h, List.getElem?_drop, List.getD_eq_getElem?_getD]
theorem cutZ_ice {z : List Int} {i m j : Nat} (h : j < m) : iceAt (cutZ z i m) j = iceAt z (i + j) := by
  unfold iceAt tA tB tC
  rw [cutZ_nth (by omega), cutZ_nth (by omega), cutZ_nth (by omega), show i * 3 + j * 3 = (i + j) * 3 by omega, show i * 3 + (j * 3 + 1) = (i + j) * 3 + 1 by omega, show i * 3 + (j * 3 + 2) = (i + j) * 3 + 2 by omega]
theorem RowI.cut {w : World} {b off : Nat} {z : List Int} {n i m : Nat} (h : RowI w (some ⟨b, off, none⟩) z) (hz : z.length = n * 3) (hi : i + m ≤ n) : RowI w (some ⟨b, off + i * 3, none⟩) (cutZ z i m) := fun hn => by
  have hl := cutZ_length hz hi
  obtain ⟨b', off', e, hb, hc⟩ := h (by omega)
  injection e with e
  injection e with e1 e2
  subst e1
  subst e2
  refine ⟨b, off + i * 3, rfl, hb, fun t ht => ?_⟩
  rw [hl] at ht
  rw [cutZ_nth ht, Nat.add_assoc]
  exact hc (i * 3 + t) (by omega)
theorem heat_cut {z : List Int} {n i : Nat} {a : Int} : anyN (iceAt (cutZ z i (spanN n a i))) (spanN n a i) = heatB z n a i := anyN_congr _ fun j hj => cutZ_ice hj
theorem heat1_c (r d x : Int) (hd0 : -400 ≤ d) (hd1 : d ≤ 500) (w : World) : Calls Try.prog 63 #[.agg #[.int .i64 r, .int .i64 d, .int .i64 x]] w fun e w' => e = .returned (.bool (kindB 2 r d x)) ∧ Below w.heap.size w w' := by
  go_enter Try.func63, Try.ntmps63
  go_wp2_with
    (first
      | (go_at_call 62; go_call (isKind_c); rintro e w' ⟨rfl, hb⟩; obtain ⟨qc, qf, qz, qs⟩ := bfacts hb; (try simp only [World.size_alloc, World.size_setCell, World.size_drew, World.heap_drewN] at qs)))
  go_returns
  refine ⟨by simp, ?_⟩
  repeat' (first
    | (with_reducible exact Below.refl _ _)
    | (with_reducible assumption)
    | (with_reducible refine Below.alloc ?_ ?_ _)
    | (with_reducible refine Below.drew ?_)
    | (with_reducible refine bdrewN ?_ _)
    | (with_reducible refine Below.setCell ?_ ?_ _)
    | (with_reducible refine bthen (by assumption) ?_ ?_)
    | go_size)
theorem indexFuncHeat_c (A : Option Addr) (n c : Nat) (z : List Int) (hz : z.length = n * 3) (hd : ∀ k, k < n → hourOk (tA z k) (tB z k) (tC z k) = true) (hn : n ≤ 1048576) (w : World) (hr : RowI w A z) : Calls Try.prog 69 #[.slice A n c, .func (.func 63) #[] #[]] w (IdxB (anyN (iceAt z) n) w) := by
  go_enter Try.func69, Try.ntmps69
  go_wp2
  go_loopw [8] (fun v wr => ∃ k : Nat, k ≤ n ∧ v = .int .i64 k ∧ Hid (∀ j, j < k → iceAt z j = false) ∧ Below w.heap.size w wr) (fun v _ => n - (intOf v).toNat)
  case atStart => exact ⟨0, by omega, rfl, Lib.hid (fun j hj => by omega), Below.refl _ _⟩
  case round =>
    obtain ⟨k, hk, rfl, HK, hBr⟩ := hrel
    by_cases hlt : k < n
    · obtain ⟨b, off, rfl, hb, c1, c2, c3⟩ := (hr.below hBr).tri hz hlt
      have i1 : (k : Int) < n := by omega
      obtain ⟨_, ⟨hd0, hd1⟩, _⟩ := hourOk_true (hd k hlt)
      cases hp : kindB 2 (tA z k) (tB z k) (tC z k)
      · have HN := Lib.hid (show ∀ j, j < k + 1 → iceAt z j = false from fun j hj => by
          rcases Nat.lt_or_ge j k with h1 | h1
          · exact HK.out j h1
          · obtain rfl : j = k := by omega
            exact hp)
        go_wp2_with (go_at_call 63; go_call (heat1_c _ _ _ hd0 hd1 _); rintro e w' ⟨rfl, hq⟩)
        go_roundw
        case rel => exact ⟨k + 1, by omega, by go_num, HN, hBr.trans (hq.mono hBr.size)⟩
        case measure => simp [intOf]; omega
      · have HA := Lib.hid (anyN_hit (p := iceAt z) hlt hp)
        go_wp2_with (go_at_call 63; go_call (heat1_c _ _ _ hd0 hd1 _); rintro e w' ⟨rfl, hq⟩)
        go_ret
        exact ⟨k, rfl, by rw [HA.out]; simp, hBr.trans (hq.mono hBr.size)⟩
    · obtain rfl : k = n := by omega
      have HA := Lib.hid (anyN_no HK.out)
      go_wp2
      go_ret
      exact ⟨-1, rfl, by rw [HA.out]; simp, hBr⟩
theorem containsFuncHeat_c (A : Option Addr) (n c : Nat) (z : List Int) (hz : z.length = n * 3) (hd : ∀ k, k < n → hourOk (tA z k) (tB z k) (tC z k) = true) (hn : n ≤ 1048576) (w : World) (hr : RowI w A z) : Calls Try.prog 46 #[.slice A n c, .func (.func 63) #[] #[]] w fun e w' => e = .returned (.bool (anyN (iceAt z) n)) ∧ Below w.heap.size w w' := by
  have HC := Lib.hid (indexFuncHeat_c A n c z hz hd hn w hr)
  generalize anyN (iceAt z) n = b at *
  go_enter Try.func46, Try.ntmps46
  go_wp2_with (go_at_call 69; (refine HC.out.mono ?_); rintro e w' ⟨r, rfl, hr, hb⟩)
  go_ret
  exact ⟨by simp [hr], hb⟩
theorem cutZ_ok {z : List Int} {i m j : Nat} (h : j < m) : hourOk (tA (cutZ z i m) j) (tB (cutZ z i m) j) (tC (cutZ z i m) j) = hourOk (tA z (i + j)) (tB z (i + j)) (tC z (i + j)) := by
  unfold tA tB tC
  rw [cutZ_nth (by omega), cutZ_nth (by omega), cutZ_nth (by omega), show i * 3 + j * 3 = (i + j) * 3 by omega, show i * 3 + (j * 3 + 1) = (i + j) * 3 + 1 by omega, show i * 3 + (j * 3 + 2) = (i + j) * 3 + 2 by omega]
theorem heatCut_c (b off n k m c : Nat) (z : List Int) (a : Int) (hz : z.length = n * 3) (hd : ∀ k, k < n → hourOk (tA z k) (tB z k) (tC z k) = true) (hn : n ≤ 1048576) (hk : k < n) (hm : m = spanN n a k) (w : World) (hr : RowI w (some ⟨b, off, none⟩) z) : Calls Try.prog 46 #[.slice (some ⟨b, off + k * 3, none⟩) m c, .func (.func 63) #[] #[]] w fun e w' => e = .returned (.bool (heatB z n a k)) ∧ Below w.heap.size w w' := by
  have hl : k + m ≤ n := by
    rw [hm]
    unfold spanN
    omega
  have h := containsFuncHeat_c (some ⟨b, off + k * 3, none⟩) m c (cutZ z k m) (cutZ_length hz hl) (fun j hj => by rw [cutZ_ok hj]; exact hd (k + j) (by omega)) (by omega) w (hr.cut hz hl)
  have e : anyN (iceAt (cutZ z k m)) m = heatB z n a k := by
    rw [hm]
    exact heat_cut
  rw [e] at h
  exact h
set_option maxHeartbeats 2000000 in
theorem implHeaterHours_c (A : Option Addr) (n : Nat) (z : List Int) (a : Int) (hz : z.length = n * 3) (hn : n ≤ 1048576) (w : World) (hr : RowI w A z) : Calls Try.prog 36 #[.slice A n n, .int .i64 a] w fun e w' => ∃ v, e = .returned (.tuple #[v, .int .i64 (fHeat z n a).2]) ∧ OwnI 2 w' w.heap.size v (fHeat z n a).1 ∧ Below w.heap.size w w' := by
  cases hh : hoursB z n
  · have HF := Lib.hid (show fHeat z n a = ([], 1) by simp [fHeat, hh])
    go_enter Try.func36, Try.ntmps36
    go_wp2_with (go_at_call 16; (refine (implValidHours_c _ n _ z hz hn _ hr).mono ?_); rintro e w1 ⟨rfl, hb1⟩)
    go_returns
    exact ⟨_, by (rw [HF.out]) <;> rfl, by rw [HF.out]; exact OwnI.nil _ _ _, hb1⟩
  cases ha : inB a 0 24
  · have HF := Lib.hid (show fHeat z n a = ([], 2) by simp [fHeat, hh, ha])
    go_enter Try.func36, Try.ntmps36
    go_wp2_with (go_at_call 16; (refine (implValidHours_c _ n _ z hz hn _ hr).mono ?_); rintro e w1 ⟨rfl, hb1⟩)
    go_wp2_with (go_at_call 59; go_call (within_c _ _ _ _); rintro e w' ⟨rfl, rfl⟩)
    go_returns
    exact ⟨_, by (rw [HF.out]) <;> rfl, by rw [HF.out]; exact OwnI.nil _ _ _, hb1⟩
  obtain ⟨a0, a1⟩ := inB_true ha
  have HF := Lib.hid (show fHeat z n a = (heatTo z n a n, 0) by simp [fHeat, hh, ha])
  have HH := Lib.hid (hoursB_true hh)
  have n48 := HH.out.1
  go_enter Try.func36, Try.ntmps36
  go_wp2_with (go_at_call 16; (refine (implValidHours_c _ n _ z hz hn _ hr).mono ?_); rintro e w1 ⟨rfl, hb1⟩; have hr1 := hr.below hb1; have z1 : w.heap.size ≤ w1.heap.size := hb1.size)
  go_wp2_with (go_at_call 59; go_call (within_c _ _ _ _); rintro e w' ⟨rfl, rfl⟩)
  go_loopw [6, 17] (fun v i wr => ∃ k : Nat, k ≤ n ∧ i = .int .i64 k ∧ Hid (OwnI 2 wr w1.heap.size v (heatTo z n a k)) ∧ Below w1.heap.size w1 wr) (fun _ i _ => n - (intOf i).toNat)
  case atStart => exact ⟨0, by omega, rfl, Lib.hid (OwnI.nil _ _ _), Below.refl _ _⟩
  case round =>
    obtain ⟨k, hk, rfl, HO, hBr⟩ := hrel
    have hsr := hBr.size
    have hkl := heatTo_len z n a k
    by_cases hlt : k < n
    · obtain ⟨b, off, rfl, hbb, c1, c2, c3⟩ := (hr1.below hBr).tri hz hlt
      have hrk := hr1.below hBr
      have i1 : (k : Int) < n := by omega
      rcases Int.lt_or_le ((k : Int) + a + 1) n with hu | hu
      · have hsp : spanN n a k = a.toNat + 1 := by unfold spanN; omega
        cases hp : heatB z n a k
        · have HN := Lib.hid (heatTo_out hp)
          go_wp2_with (go_at_call 46; (refine (heatCut_c b off n k _ _ z a hz HH.out.2 hn hlt (by omega) _ hrk).mono ?_); rintro e wc ⟨rfl, hc⟩; have HO1 := Lib.hid (HO.out.below hc); have hsc := hc.size; have hcc : Below w1.heap.size wr wc := hc.mono (by omega))
          go_roundw
          case rel => exact ⟨k + 1, by omega, by go_num, Lib.hid (by rw [HN.out]; exact HO1.out), hBr.trans hcc⟩
          case measure => simp [intOf]; omega
        · have HN := Lib.hid (heatTo_in hp)
          go_wp2_with (first
            | (at_builtin; refine wpList_push rfl _ _ 43 rfl Try.underlying43 int64_info (k : Int) rfl HO1.out rfl rfl (by omega) (by omega) ?_; intro v' w3 hO' hB'; have HO' := Lib.hid hO'; clear hO')
            | (go_at_call 46; (refine (heatCut_c b off n k _ _ z a hz HH.out.2 hn hlt (by omega) _ hrk).mono ?_); rintro e wc ⟨rfl, hc⟩; have HO1 := Lib.hid (HO.out.below hc); have hsc := hc.size; have hcc : Below w1.heap.size wr wc := hc.mono (by omega)))
          go_roundw
          case rel => exact ⟨k + 1, by omega, by go_num, Lib.hid (by rw [HN.out]; exact HO'.out), (hBr.trans hcc).trans hB'⟩
          case measure => simp [intOf]; omega
      · have hsp : spanN n a k = n - k := by unfold spanN; omega
        cases hp : heatB z n a k
        · have HN := Lib.hid (heatTo_out hp)
          go_wp2_with (go_at_call 46; (refine (heatCut_c b off n k _ _ z a hz HH.out.2 hn hlt (by omega) _ hrk).mono ?_); rintro e wc ⟨rfl, hc⟩; have HO1 := Lib.hid (HO.out.below hc); have hsc := hc.size; have hcc : Below w1.heap.size wr wc := hc.mono (by omega))
          go_roundw
          case rel => exact ⟨k + 1, by omega, by go_num, Lib.hid (by rw [HN.out]; exact HO1.out), hBr.trans hcc⟩
          case measure => simp [intOf]; omega
        · have HN := Lib.hid (heatTo_in hp)
          go_wp2_with (first
            | (at_builtin; refine wpList_push rfl _ _ 43 rfl Try.underlying43 int64_info (k : Int) rfl HO1.out rfl rfl (by omega) (by omega) ?_; intro v' w3 hO' hB'; have HO' := Lib.hid hO'; clear hO')
            | (go_at_call 46; (refine (heatCut_c b off n k _ _ z a hz HH.out.2 hn hlt (by omega) _ hrk).mono ?_); rintro e wc ⟨rfl, hc⟩; have HO1 := Lib.hid (HO.out.below hc); have hsc := hc.size; have hcc : Below w1.heap.size wr wc := hc.mono (by omega)))
          go_roundw
          case rel => exact ⟨k + 1, by omega, by go_num, Lib.hid (by rw [HN.out]; exact HO'.out), (hBr.trans hcc).trans hB'⟩
          case measure => simp [intOf]; omega
    · obtain rfl : k = n := by omega
      go_wp2
      go_returns
      exact ⟨_, by (rw [HF.out]) <;> rfl, by rw [HF.out]; exact HO.out.mono (by omega), hb1.trans (hBr.mono (by omega))⟩
set_option maxHeartbeats 2000000 in
theorem specHeaterHours_c (A : Option Addr) (n : Nat) (z : List Int) (a : Int) (hz : z.length = n * 3) (hn : n ≤ 1048576) (w : World) (hr : RowI w A z) : Calls Try.prog 35 #[.slice A n n, .int .i64 a] w fun e w' => ∃ v, e = .returned (.tuple #[v, .int .i64 (fHeat z n a).2]) ∧ OwnI 2 w' w.heap.size v (fHeat z n a).1 ∧ Below w.heap.size w w' := by
  cases hh : hoursB z n
  · have HF := Lib.hid (show fHeat z n a = ([], 1) by simp [fHeat, hh])
    go_enter Try.func35, Try.ntmps35
    go_wp2_with (go_at_call 45; (refine (l08Ok_c _ n _ z hz hn _ hr).mono ?_); rintro e w1 ⟨rfl, hb1⟩)
    go_returns
    exact ⟨_, by (rw [HF.out]) <;> rfl, by rw [HF.out]; exact OwnI.nil _ _ _, hb1⟩
  cases ha : inB a 0 24
  · have HF := Lib.hid (show fHeat z n a = ([], 2) by simp [fHeat, hh, ha])
    go_enter Try.func35, Try.ntmps35
    go_wp2_with (go_at_call 45; (refine (l08Ok_c _ n _ z hz hn _ hr).mono ?_); rintro e w1 ⟨rfl, hb1⟩)
    go_wp2_with (go_at_call 57; go_call (l00In_c _ _ _ _); rintro e w' ⟨rfl, rfl⟩)
    go_returns
    exact ⟨_, by (rw [HF.out]) <;> rfl, by rw [HF.out]; exact OwnI.nil _ _ _, hb1⟩
  obtain ⟨a0, a1⟩ := inB_true ha
  have HF := Lib.hid (show fHeat z n a = (heatTo z n a n, 0) by simp [fHeat, hh, ha])
  have HH := Lib.hid (hoursB_true hh)
  have n48 := HH.out.1
  go_enter Try.func35, Try.ntmps35
  go_wp2_with (go_at_call 45; (refine (l08Ok_c _ n _ z hz hn _ hr).mono ?_); rintro e w1 ⟨rfl, hb1⟩; have hr1 := hr.below hb1; have z1 : w.heap.size ≤ w1.heap.size := hb1.size)
  go_wp2_with (go_at_call 57; go_call (l00In_c _ _ _ _); rintro e w' ⟨rfl, rfl⟩)
  go_loopw [6, 7] (fun v i wr => ∃ k : Nat, k ≤ n ∧ i = .int .i64 k ∧ Hid (OwnI 2 wr w1.heap.size v (heatTo z n a k)) ∧ Below w1.heap.size w1 wr) (fun _ i _ => n - (intOf i).toNat)
  case atStart => exact ⟨0, by omega, rfl, Lib.hid (OwnI.lit _ _ _ (Nat.le_refl _)), (Below.refl _ _).alloc (Nat.le_refl _) _⟩
  case round =>
    obtain ⟨k, hk, rfl, HO, hBr⟩ := hrel
    have hsr := hBr.size
    have hkl := heatTo_len z n a k
    by_cases hlt : k < n
    · have i1 : (k : Int) < n := by omega
      have hsp0 : spanN n a k ≤ n - k ∧ spanN n a k ≤ a.toNat + 1 ∧ (spanN n a k = n - k ∨ spanN n a k = a.toNat + 1) := by unfold spanN; omega
      have hrk := hr1.below hBr
      go_wp2
      go_loopw [8, 9] (fun v i wi => ∃ (j q : Nat) (p : Bool), k ≤ j ∧ j ≤ k + spanN n a k ∧ i = .int .i64 j ∧ v = .bool p ∧ Hid (anyN (fun t => iceAt z (k + t)) (j - k) = p) ∧ wi = wr.drewN q) (fun _ i _ => k + spanN n a k - (intOf i).toNat)
      case atStart => exact ⟨k, 0, false, by omega, by omega, rfl, rfl, Lib.hid (by rw [Nat.sub_self]; rfl), rfl⟩
      case round =>
        obtain ⟨j, q, p, hj0, hj1, rfl, rfl, HP, rfl⟩ := hrel
        by_cases hj : j < k + spanN n a k
        · have j1 : (j : Int) < n := by omega
          have j2 : (j : Int) - k ≤ a := by omega
          have hjn : j < n := by omega
          obtain ⟨b, off, rfl, hbb, c1, c2, c3⟩ := hrk.tri hz hjn
          replace c1 : (wr.drewN q).cell? ⟨b, off + j * 3, none⟩ = some (.int .i64 (tA z j)) := c1
          replace c2 : (wr.drewN q).cell? ⟨b, off + j * 3 + 1, none⟩ = some (.int .i64 (tB z j)) := c2
          replace c3 : (wr.drewN q).cell? ⟨b, off + j * 3 + 2, none⟩ = some (.int .i64 (tC z j)) := c3
          obtain ⟨_, ⟨hd0, hd1⟩, _⟩ := hourOk_true (HH.out.2 j hjn)
          have HN : Hid (anyN (fun t => iceAt z (k + t)) (j + 1 - k) = (p || kindB 2 (tA z j) (tB z j) (tC z j))) := Lib.hid (by rw [show j + 1 - k = (j - k) + 1 by omega, anyN_succ, HP.out]; unfold iceAt; rw [show k + (j - k) = j by omega])
          generalize hkb : kindB 2 (tA z j) (tB z j) (tC z j) = kb at HN
          go_wp2_with (go_at_call 61; (refine (l08Is_c (tA z j) (tB z j) (tC z j) 2 hd0 hd1 b (off + j * 3) _ c1 c2 c3).mono ?_); rw [hkb]; rintro e w' ⟨rfl, nq, rfl⟩)
          all_goals (go_roundw; (case rel => exact ⟨j + 1, q + nq, _, by omega, by omega, by go_num, rfl, Lib.hid (by rw [HN.out]; simp [*]), rfl⟩); (case measure => simp [intOf]; omega))
        · obtain rfl : j = k + spanN n a k := by omega
          have hP := HP.out
          rw [show k + spanN n a k - k = spanN n a k by omega] at hP
          change heatB z n a k = p at hP
          subst hP
          cases hp : heatB z n a k
          · have HN := Lib.hid (heatTo_out hp)
            go_wp2
            all_goals (go_roundw; (case rel => exact ⟨k + 1, by omega, by go_num, Lib.hid (by rw [HN.out]; exact HO.out.drewN _), bdrewN hBr _⟩); (case measure => simp [intOf]; omega))
          · have HN := Lib.hid (heatTo_in hp)
            have HO1 := Lib.hid (HO.out.drewN q)
            have hsq : (wr.drewN q).heap.size = wr.heap.size := rfl
            go_wp2_with (at_builtin; refine wpList_push rfl _ _ 43 rfl Try.underlying43 int64_info (k : Int) rfl HO1.out rfl rfl (by omega) (by omega) ?_; intro v' w3 hO' hB'; have HO' := Lib.hid hO'; clear hO')
            all_goals (go_roundw; (case rel => exact ⟨k + 1, by omega, by go_num, Lib.hid (by rw [HN.out]; exact HO'.out), (bdrewN hBr _).trans hB'⟩); (case measure => simp [intOf]; omega))
    · obtain rfl : k = n := by omega
      go_wp2
      go_returns
      exact ⟨_, by (rw [HF.out]) <;> rfl, by rw [HF.out]; exact HO.out.mono (by omega), hb1.trans (hBr.mono (by omega))⟩
set_option maxHeartbeats 4000000 in
theorem walk_FnExactHeaterHours (A : Option Addr) (nA cA : Nat) (zA : List Int) (x : Int) (w : World) (hA : StructArg 3 w A nA zA) (_ : I64 x) : Calls Try.prog 9 #[.slice A nA cA, .int .i64 x] w fun e w' => e = .returned (.bool true) ∧ Below w.heap.size w w' := by
  obtain ⟨hzA, hxA, hrA, _⟩ := hA
  have HZA := Lib.hid (szHourS_g A nA cA (1048576) (by omega) (by omega) hxA)
  rcases Int.lt_or_le (1048576) (nA : Int) with hqA | hqA
  · rw [if_neg (by omega)] at HZA
    go_enter Try.func9, Try.ntmps9
    go_wp2_with (go_at_call 13; (refine (HZA.out _).mono ?_); rintro e w0 ⟨rfl, rfl⟩)
    go_returns
    refine ⟨by simp, ?_⟩
    exact Below.refl _ _
  rw [if_pos hqA] at HZA
  have hnA : nA ≤ 1048576 := by omega
  have hl : (fHeat zA nA x).1.length ≤ nA := by
    unfold fHeat
    split
    · split
      · exact heatTo_len zA nA x nA
      · simp
    · simp
  obtain ⟨xs, hx⟩ : ∃ xs, (fHeat zA nA x).1 = xs := ⟨_, rfl⟩
  obtain ⟨q, hq⟩ : ∃ q, (fHeat zA nA x).2 = q := ⟨_, rfl⟩
  have hs := fun (w : World) (B : Option Addr) (hB : RowI w B zA) => specHeaterHours_c B nA zA x hzA hnA w hB
  have hi := fun (w : World) (B : Option Addr) (hB : RowI w B zA) => implHeaterHours_c B nA zA x hzA hnA w hB
  simp only [hx, hq] at hs hi hl
  have HS := Lib.hid (fun (w : World) {B : Option Addr} hB => hs w B hB)
  have HI := Lib.hid (fun (w : World) {B : Option Addr} hB => hi w B hB)
  clear hs hi hx hq
  have hn : xs.length ≤ 1048576 := by omega
  go_enter Try.func9, Try.ntmps9
  go_wp2_with (go_at_call 13; (refine (HZA.out _).mono ?_); rintro e w0 ⟨rfl, rfl⟩)
  go_wp2_with (go_at_call 15; (refine (toHourS_c A nA _ zA hzA hnA _ hrA).mono ?_); rintro e w1 ⟨rfl, hSA, _, hb1⟩; have z1 : w.heap.size ≤ w1.heap.size := hb1.size; have ch1_w : Below w.heap.size w w1 := hb1)
  go_wp2_with (go_at_call 35; (refine (HS.out _ hSA).mono ?_); rintro e w2 ⟨v0, rfl, hO0, hb2⟩; obtain ⟨A0, c0, rfl, hV0⟩ := hO0.slice; have z2 : w1.heap.size ≤ w2.heap.size := hb2.size; have ch2_w : Below w.heap.size w w2 := ch1_w.trans ((hb2).mono (by omega)); have ch2_w1 : Below w1.heap.size w1 w2 := hb2)
  go_wp2_with (go_at_call 15; (refine (toHourS_m A nA _ zA hzA hnA _ (hrA.below ch2_w)).mono ?_); rintro e w3 ⟨rfl, hXA, hMA, hb3⟩; have z3 : w2.heap.size ≤ w3.heap.size := hb3.size; have zl3 : w2.heap.size < w3.heap.size := hMA.1; have HMA := Lib.hid hMA; clear hMA; have ch3_w : Below w.heap.size w w3 := ch2_w.trans ((hb3).mono (by omega)); have ch3_w2 : Below w2.heap.size w2 w3 := hb3)
  go_wp2_with (go_at_call 36; (refine (HI.out _ hXA).mono ?_); rintro e w4 ⟨v1, rfl, hO1, hb4⟩; obtain ⟨A1, c1, rfl, hG⟩ := hO1.slice; have z4 : w3.heap.size ≤ w4.heap.size := hb4.size; have HO1 := Lib.hid hO1; clear hO1; have ch4_w : Below w.heap.size w w4 := ch3_w.trans ((hb4).mono (by omega)); have ch4_w2 : Below w2.heap.size w2 w4 := ch3_w2.trans ((hb4).mono (by omega)); have ch4_w3 : Below w3.heap.size w3 w4 := hb4)
  go_wp2_with (go_at_call 28; (refine (eqInt64S_c _ _ _ _ xs hn _ hG (hV0.below ch4_w2)).mono ?_); rintro e wq ⟨rfl, n1, rfl⟩; have ch5_w : Below w.heap.size w (w4.drewN n1) := bdrewN ch4_w n1; have ch5_w2 : Below w2.heap.size w2 (w4.drewN n1) := bdrewN ch4_w2 n1; have ch5_w3 : Below w3.heap.size w3 (w4.drewN n1) := bdrewN ch4_w3 n1; have ch5_w4 : Below w4.heap.size w4 (w4.drewN n1) := bdrewN (Below.refl _ _) n1)
  have zq : ((w4.drewN n1)).heap.size = w4.heap.size := rfl
  go_wp2_with (go_at_call 15; (refine (toHourS_c A nA _ zA hzA hnA _ (hrA.below ch5_w)).mono ?_); rintro e w5 ⟨rfl, hYA, _, hb5⟩; have z5 : (w4.drewN n1).heap.size ≤ w5.heap.size := hb5.size; have ch6_w : Below w.heap.size w w5 := ch5_w.trans ((hb5).mono (by omega)); have ch6_w2 : Below w2.heap.size w2 w5 := ch5_w2.trans ((hb5).mono (by omega)); have ch6_w3 : Below w3.heap.size w3 w5 := ch5_w3.trans ((hb5).mono (by omega)); have ch6_w4 : Below w4.heap.size w4 w5 := ch5_w4.trans ((hb5).mono (by omega)))
  go_wp2_with (go_at_call 17; (refine (eqHourS_c _ _ nA _ _ zA hzA hnA _ (hXA.below ch6_w3) hYA).mono ?_); rintro e w6 ⟨rfl, hb6⟩; have z6 : w5.heap.size ≤ w6.heap.size := hb6.size; have ch7_w : Below w.heap.size w w6 := ch6_w.trans ((hb6).mono (by omega)); have ch7_w2 : Below w2.heap.size w2 w6 := ch6_w2.trans ((hb6).mono (by omega)); have ch7_w3 : Below w3.heap.size w3 w6 := ch6_w3.trans ((hb6).mono (by omega)); have ch7_w4 : Below w4.heap.size w4 w6 := ch6_w4.trans ((hb6).mono (by omega)))
  go_wp2_with (go_at_call 37; (refine (markHourS_c _ nA _ (1) (by omega) (by omega) hnA _ (HMA.out.below ch7_w3)).mono ?_); rintro e w7 ⟨rfl, hg7⟩; have z7 : w6.heap.size ≤ w7.heap.size := hg7.size; have HG0 := Lib.hid (OwnI.kept (HO1.out.below ch7_w4) hg7 (by omega)); have ch8_w : Below w.heap.size w w7 := below_grown ch7_w hg7 (by omega) (by omega); have ch8_w2 : Below w2.heap.size w2 w7 := below_grown ch7_w2 hg7 (by omega) (by omega))
  go_wp2_with (go_at_call 28; (refine (eqInt64S_c _ _ _ _ xs hn _ (HG0.out).row.2 (hV0.below ch8_w2)).mono ?_); rintro e wq ⟨rfl, n2, rfl⟩; have ch9_w : Below w.heap.size w (w7.drewN n2) := bdrewN ch8_w n2; have ch9_w2 : Below w2.heap.size w2 (w7.drewN n2) := bdrewN ch8_w2 n2)
  go_wp2_with (go_at_call 29; (refine (markInt64S_c _ xs 1 w3.heap.size (by omega) (by omega) hn _ (OwnI.drewN (HG0.out) _)).mono ?_); rintro e w8 ⟨rfl, ys, hy, hm, hO6, hb8⟩; have HM := Lib.hid (show Marked 1 ys ys.length from by rw [hy]; exact hm); have HR := Lib.hid hO6.row.2; clear hm hO6; have z8 : w7.heap.size ≤ w8.heap.size := hb8.size; have ch10_w : Below w.heap.size w w8 := ch9_w.trans ((hb8).mono (by omega)); have ch10_w2 : Below w2.heap.size w2 w8 := ch9_w2.trans ((hb8).mono (by omega)))
  have hyn : ys.length ≤ 1048576 := by omega
  go_wp2_with (go_at_call 30; (refine (heldInt64S_c A1 xs.length _ ys 1 hy (by omega) (by omega) hyn HM.out _ (HR.out)).mono ?_); rintro e wh ⟨rfl, rfl⟩)
  go_wp2_with (go_at_call 15; (refine (toHourS_c A nA _ zA hzA hnA _ (hrA.below ch10_w)).mono ?_); rintro e w9 ⟨rfl, hTA, _, hb9⟩; have z9 : w8.heap.size ≤ w9.heap.size := hb9.size; have ch11_w : Below w.heap.size w w9 := ch10_w.trans ((hb9).mono (by omega)); have ch11_w2 : Below w2.heap.size w2 w9 := ch10_w2.trans ((hb9).mono (by omega)); have ch11_w8 : Below w8.heap.size w8 w9 := hb9)
  go_wp2_with (go_at_call 36; (refine (HI.out _ hTA).mono ?_); rintro e w10 ⟨v2, rfl, hO2, hb10⟩; obtain ⟨A2, c2, rfl, hV2⟩ := hO2.slice; have z10 : w9.heap.size ≤ w10.heap.size := hb10.size; have ch12_w : Below w.heap.size w w10 := ch11_w.trans ((hb10).mono (by omega)); have ch12_w2 : Below w2.heap.size w2 w10 := ch11_w2.trans ((hb10).mono (by omega)); have ch12_w8 : Below w8.heap.size w8 w10 := ch11_w8.trans ((hb10).mono (by omega)); have ch12_w9 : Below w9.heap.size w9 w10 := hb10)
  go_wp2_with (go_at_call 28; (refine (eqInt64S_c _ _ _ _ xs hn _ hV2 (hV0.below ch12_w2)).mono ?_); rintro e wq ⟨rfl, n3, rfl⟩; have ch13_w : Below w.heap.size w (w10.drewN n3) := bdrewN ch12_w n3; have ch13_w2 : Below w2.heap.size w2 (w10.drewN n3) := bdrewN ch12_w2 n3; have ch13_w8 : Below w8.heap.size w8 (w10.drewN n3) := bdrewN ch12_w8 n3; have ch13_w9 : Below w9.heap.size w9 (w10.drewN n3) := bdrewN ch12_w9 n3)
  go_wp2_with (go_at_call 30; (refine (heldInt64S_c A1 xs.length _ ys 1 hy (by omega) (by omega) hyn HM.out _ ((HR.out.below ch13_w8))).mono ?_); rintro e wh ⟨rfl, rfl⟩)
  go_returns
  exact ⟨by simp, ch13_w⟩
end Go.Proofs.Ytelakibjcihfaaa
