/- HeaterHours. -/
import Derived.Test.YteddchnmjppdeaaK2
namespace Go.Proofs.Yteddchnmjppdeaa
open Go.ChangeShapes Go.WideShapes Go.ChangeAt Go.RowKit
set_option linter.unusedVariables false
set_option linter.unusedSimpArgs false

theorem anyN_succ (p : Nat → Bool) (k : Nat) : anyN p (k + 1) = (anyN p k || p k) := by
  unfold anyN
  rw [List.range_succ, List.any_append]
  simp
theorem anyN_congr {p q : Nat → Bool} : ∀ n, (∀ j, j < n → p j = q j) → anyN p n = anyN q n
  | 0, _ => rfl
  | n + 1, h => by rw [anyN_succ, anyN_succ, anyN_congr n (fun j hj => h j (by omega)), h n (by omega)]
def iceAt (z : List Int) (k : Nat) : Bool := kindB 2 (tA z k) (tB z k) (tC z k)
/-- How many hours are looked at from hour i on. -/
def spanN (n : Nat) (a : Int) (i : Nat) : Nat := min (n - i) (a.toNat + 1)
def heatB (z : List Int) (n : Nat) (a : Int) (i : Nat) : Bool := anyN (fun j => iceAt z (i + j)) (spanN n a i)
def heatTo (z : List Int) (n : Nat) (a : Int) : Nat → List Int
  | 0 => []
  | k + 1 => if heatB z n a k then heatTo z n a k ++ [(k : Int)] else heatTo z n a k
theorem heatTo_in {z : List Int} {n k : Nat} {a : Int} (h : heatB z n a k = true) : heatTo z n a (k + 1) = heatTo z n a k ++ [(k : Int)] := by rw [heatTo, if_pos h]
theorem heatTo_out {z : List Int} {n k : Nat} {a : Int} (h : heatB z n a k = false) : heatTo z n a (k + 1) = heatTo z n a k := by rw [heatTo, if_neg (by simp [h])]
theorem heatTo_len (z : List Int) (n : Nat) (a : Int) : ∀ k, (heatTo z n a k).length ≤ k
  | 0 => by simp [heatTo]
  | k + 1 => by
    have := heatTo_len z n a k
    simp only [heatTo]
    split <;> simp <;> omega
def fHeat (z : List Int) (n : Nat) (a : Int) : List Int × Int := if hoursB z n then (if inB a 0 24 then (heatTo z n a n, 0) else ([], 2)) else ([], 1)
/-- The hours from i on. -/
def cutZ (z : List Int) (i m : Nat) : List Int := (z.drop (i * 3)).take (m * 3)
theorem cutZ_length {z : List Int} {n i m : Nat} (hz : z.length = n * 3) (h : i + m ≤ n) : (cutZ z i m).length = m * 3 := by
  unfold cutZ
  rw [List.length_take, List.length_drop, hz]
  omega
theorem cutZ_nth {z : List Int} {i m t : Nat} (h : t < m * 3) : nth (cutZ z i m) t = nth z (i * 3 + t) := by
  unfold nth cutZ
  rw [List.getD_eq_getElem?_getD, List.getElem?_take, if_pos h, List.getElem?_drop, List.getD_eq_getElem?_getD]
theorem cutZ_ice {z : List Int} {i m j : Nat} (h : j < m) : iceAt (cutZ z i m) j = iceAt z (i + j) := by
  unfold iceAt tA tB tC
  rw [cutZ_nth (by omega), cutZ_nth (by omega), cutZ_nth (by omega), show i * 3 + j * 3 = (i + j) * 3 by omega, show i * 3 + (j * 3 + 1) = (i + j) * 3 + 1 by omega, show i * 3 + (j * 3 + 2) = (i + j) * 3 + 2 by omega]
theorem RowI.cut {w : World} {b off : Nat} {z : List Int} {n i m : Nat} (h : RowI w (some ⟨b, off, none⟩) z) (hz : z.length = n * 3) (hi : i + m ≤ n) : RowI w (some ⟨b, off + i * 3, none⟩) (cutZ z i m) := fun hn => by
  have hl := cutZ_length hz hi
  obtain ⟨b', off', e, hb, hc⟩ := h (by omega)
  injection e with e
  injection e with e1 e2
  subst e1
  subst e2
  refine ⟨b, off + i * 3, rfl, hb, fun t ht => ?_⟩
  rw [hl] at ht
  rw [cutZ_nth ht, Nat.add_assoc]
  exact hc (i * 3 + t) (by omega)
theorem heat_cut {z : List Int} {n i : Nat} {a : Int} : anyN (iceAt (cutZ z i (spanN n a i))) (spanN n a i) = heatB z n a i := anyN_congr _ fun j hj => cutZ_ice hj
theorem heat1_c (r d x : Int) (hd0 : -400 ≤ d) (hd1 : d ≤ 500) (w : World) : Calls Try.prog 60 #[.agg #[.int .i64 r, .int .i64 d, .int .i64 x]] w fun e w' => e = .returned (.bool (kindB 2 r d x)) ∧ Below w.heap.size w w' := by
  go_enter Try.func60, Try.ntmps60
  go_wp2_with
    (first
      | (go_at_call 61; go_call (isKind_c); rintro e w' ⟨rfl, hb⟩; obtain ⟨qc, qf, qz, qs⟩ := bfacts hb; (try simp only [World.size_alloc, World.size_setCell, World.size_drew, World.heap_drewN] at qs)))
  go_returns
  refine ⟨by simp, ?_⟩
  repeat' (first
    | (with_reducible exact Below.refl _ _)
    | (with_reducible assumption)
    | (with_reducible refine Below.alloc ?_ ?_ _)
    | (with_reducible refine Below.drew ?_)
    | (with_reducible refine bdrewN ?_ _)
    | (with_reducible refine Below.setCell ?_ ?_ _)
    | (with_reducible refine bthen (by assumption) ?_ ?_)
    | go_size)
theorem indexFuncHeat_c (A : Option Addr) (n c : Nat) (z : List Int) (hz : z.length = n * 3) (hd : ∀ k, k < n → hourOk (tA z k) (tB z k) (tC z k) = true) (hn : n ≤ 1048576) (w : World) (hr : RowI w A z) : Calls Try.prog 74 #[.slice A n c, .func (.func 60) #[] #[]] w (IdxB (anyN (iceAt z) n) w) := by
  go_enter Try.func74, Try.ntmps74
  go_wp2
  go_loopw [8] (fun v wr => ∃ k : Nat, k ≤ n ∧ v = .int .i64 k ∧ Hid (∀ j, j < k → iceAt z j = false) ∧ Below w.heap.size w wr) (fun v _ => n - (intOf v).toNat)
  case atStart => exact ⟨0, by omega, rfl, Lib.hid (fun j hj => by omega), Below.refl _ _⟩
  case round =>
    obtain ⟨k, hk, rfl, HK, hBr⟩ := hrel
    by_cases hlt : k < n
    · obtain ⟨b, off, rfl, hb, c1, c2, c3⟩ := (hr.below hBr).tri hz hlt
      have i1 : (k : Int) < n := by omega
      obtain ⟨_, ⟨hd0, hd1⟩, _⟩ := hourOk_true (hd k hlt)
      cases hp : kindB 2 (tA z k) (tB z k) (tC z k)
      · have HN := Lib.hid (show ∀ j, j < k + 1 → iceAt z j = false from fun j hj => by
          rcases Nat.lt_or_ge j k with h1 | h1
          · exact HK.out j h1
          · obtain rfl : j = k := by omega
            exact hp)
        go_wp2_with (go_at_call 60; go_call (heat1_c _ _ _ hd0 hd1 _); rintro e w' ⟨rfl, hq⟩)
        go_roundw
        case rel => exact ⟨k + 1, by omega, by go_num, HN, hBr.trans (hq.mono hBr.size)⟩
        case measure => simp [intOf]; omega
      · have HA := Lib.hid (anyN_hit (p := iceAt z) hlt hp)
        go_wp2_with (go_at_call 60; go_call (heat1_c _ _ _ hd0 hd1 _); rintro e w' ⟨rfl, hq⟩)
        go_ret
        exact ⟨k, rfl, by rw [HA.out]; simp, hBr.trans (hq.mono hBr.size)⟩
    · obtain rfl : k = n := by omega
      have HA := Lib.hid (anyN_no HK.out)
      go_wp2
      go_ret
      exact ⟨-1, rfl, by rw [HA.out]; simp, hBr⟩
theorem containsFuncHeat_c (A : Option Addr) (n c : Nat) (z : List Int) (hz : z.length = n * 3) (hd : ∀ k, k < n → hourOk (tA z k) (tB z k) (tC z k) = true) (hn : n ≤ 1048576) (w : World) (hr : RowI w A z) : Calls Try.prog 59 #[.slice A n c, .func (.func 60) #[] #[]] w fun e w' => e = .returned (.bool (anyN (iceAt z) n)) ∧ Below w.heap.size w w' := by
  have HC := Lib.hid (indexFuncHeat_c A n c z hz hd hn w hr)
  generalize anyN (iceAt z) n = b at *
  go_enter Try.func59, Try.ntmps59
  go_wp2_with (go_at_call 74; (refine HC.out.mono ?_); rintro e w' ⟨r, rfl, hr, hb⟩)
  go_ret
  exact ⟨by simp [hr], hb⟩
theorem cutZ_ok {z : List Int} {i m j : Nat} (h : j < m) : hourOk (tA (cutZ z i m) j) (tB (cutZ z i m) j) (tC (cutZ z i m) j) = hourOk (tA z (i + j)) (tB z (i + j)) (tC z (i + j)) := by
  unfold tA tB tC
  rw [cutZ_nth (by omega), cutZ_nth (by omega), cutZ_nth (by omega), show i * 3 + j * 3 = (i + j) * 3 by omega, show i * 3 + (j * 3 + 1) = (i + j) * 3 + 1 by omega, show i * 3 + (j * 3 + 2) = (i + j) * 3 + 2 by omega]
theorem heatCut_c (b off n k m c : Nat) (z : List Int) (a : Int) (hz : z.length = n * 3) (hd : ∀ k, k < n → hourOk (tA z k) (tB z k) (tC z k) = true) (hn : n ≤ 1048576) (hk : k < n) (hm : m = spanN n a k) (w : World) (hr : RowI w (some ⟨b, off, none⟩) z) : Calls Try.prog 59 #[.slice (some ⟨b, off + k * 3, none⟩) m c, .func (.func 60) #[] #[]] w fun e w' => e = .returned (.bool (heatB z n a k)) ∧ Below w.heap.size w w' := by
  have hl : k + m ≤ n := by
    rw [hm]
    unfold spanN
    omega
  have h := containsFuncHeat_c (some ⟨b, off + k * 3, none⟩) m c (cutZ z k m) (cutZ_length hz hl) (fun j hj => by rw [cutZ_ok hj]; exact hd (k + j) (by omega)) (by omega) w (hr.cut hz hl)
  have e : anyN (iceAt (cutZ z k m)) m = heatB z n a k := by
    rw [hm]
    exact heat_cut
  rw [e] at h
  exact h
set_option maxHeartbeats 2000000 in
theorem implHeaterHours_c (A : Option Addr) (n c : Nat) (z : List Int) (a : Int) (hz : z.length = n * 3) (hn : n ≤ 1048576) (hcap : n ≤ c) (w : World) (hr : RowI w A z) : Calls Try.prog 28 #[.slice A n c, .int .i64 a] w fun e w' => ∃ v, e = .returned (.tuple #[v, .int .i64 (fHeat z n a).2]) ∧ OwnI 2 w' w.heap.size v (fHeat z n a).1 ∧ Below w.heap.size w w' := by
  cases hh : hoursB z n
  · have HF := Lib.hid (show fHeat z n a = ([], 1) by simp [fHeat, hh])
    go_enter Try.func28, Try.ntmps28
    go_wp2_with (go_at_call 58; (refine (implValidHours_c _ n _ z hz hn _ hr).mono ?_); rintro e w1 ⟨rfl, hb1⟩)
    go_returns
    exact ⟨_, by (rw [HF.out]) <;> rfl, by rw [HF.out]; exact OwnI.nil _ _ _, hb1⟩
  cases ha : inB a 0 24
  · have HF := Lib.hid (show fHeat z n a = ([], 2) by simp [fHeat, hh, ha])
    go_enter Try.func28, Try.ntmps28
    go_wp2_with (go_at_call 58; (refine (implValidHours_c _ n _ z hz hn _ hr).mono ?_); rintro e w1 ⟨rfl, hb1⟩)
    go_wp2_with (go_at_call 33; go_call (within_c _ _ _ _); rintro e w' ⟨rfl, rfl⟩)
    go_returns
    exact ⟨_, by (rw [HF.out]) <;> rfl, by rw [HF.out]; exact OwnI.nil _ _ _, hb1⟩
  obtain ⟨a0, a1⟩ := inB_true ha
  have HF := Lib.hid (show fHeat z n a = (heatTo z n a n, 0) by simp [fHeat, hh, ha])
  have HH := Lib.hid (hoursB_true hh)
  have n48 := HH.out.1
  go_enter Try.func28, Try.ntmps28
  go_wp2_with (go_at_call 58; (refine (implValidHours_c _ n _ z hz hn _ hr).mono ?_); rintro e w1 ⟨rfl, hb1⟩; have hr1 := hr.below hb1; have z1 : w.heap.size ≤ w1.heap.size := hb1.size)
  go_wp2_with (go_at_call 33; go_call (within_c _ _ _ _); rintro e w' ⟨rfl, rfl⟩)
  go_loopw [6, 17] (fun v i wr => ∃ k : Nat, k ≤ n ∧ i = .int .i64 k ∧ Hid (OwnI 2 wr w1.heap.size v (heatTo z n a k)) ∧ Below w1.heap.size w1 wr) (fun _ i _ => n - (intOf i).toNat)
  case atStart => exact ⟨0, by omega, rfl, Lib.hid (OwnI.nil _ _ _), Below.refl _ _⟩
  case round =>
    obtain ⟨k, hk, rfl, HO, hBr⟩ := hrel
    have hsr := hBr.size
    have hkl := heatTo_len z n a k
    by_cases hlt : k < n
    · obtain ⟨b, off, rfl, hbb, c1, c2, c3⟩ := (hr1.below hBr).tri hz hlt
      have hrk := hr1.below hBr
      have i1 : (k : Int) < n := by omega
      rcases Int.lt_or_le ((k : Int) + a + 1) n with hu | hu
      · have hsp : spanN n a k = a.toNat + 1 := by unfold spanN; omega
        cases hp : heatB z n a k
        · have HN := Lib.hid (heatTo_out hp)
          go_wp2_with (go_at_call 59; (refine (heatCut_c b off n k _ _ z a hz HH.out.2 hn hlt (by omega) _ hrk).mono ?_); rintro e wc ⟨rfl, hc⟩; have HO1 := Lib.hid (HO.out.below hc); have hsc := hc.size; have hcc : Below w1.heap.size wr wc := hc.mono (by omega))
          go_roundw
          case rel => exact ⟨k + 1, by omega, by go_num, Lib.hid (by rw [HN.out]; exact HO1.out), hBr.trans hcc⟩
          case measure => simp [intOf]; omega
        · have HN := Lib.hid (heatTo_in hp)
          go_wp2_with (first
            | (at_builtin; refine wpList_push rfl _ _ 22 rfl Try.underlying22 int64_info (k : Int) rfl HO1.out rfl rfl (by omega) (by omega) ?_; intro v' w3 hO' hB'; have HO' := Lib.hid hO'; clear hO')
            | (go_at_call 59; (refine (heatCut_c b off n k _ _ z a hz HH.out.2 hn hlt (by omega) _ hrk).mono ?_); rintro e wc ⟨rfl, hc⟩; have HO1 := Lib.hid (HO.out.below hc); have hsc := hc.size; have hcc : Below w1.heap.size wr wc := hc.mono (by omega)))
          go_roundw
          case rel => exact ⟨k + 1, by omega, by go_num, Lib.hid (by rw [HN.out]; exact HO'.out), (hBr.trans hcc).trans hB'⟩
          case measure => simp [intOf]; omega
      · have hsp : spanN n a k = n - k := by unfold spanN; omega
        cases hp : heatB z n a k
        · have HN := Lib.hid (heatTo_out hp)
          go_wp2_with (go_at_call 59; (refine (heatCut_c b off n k _ _ z a hz HH.out.2 hn hlt (by omega) _ hrk).mono ?_); rintro e wc ⟨rfl, hc⟩; have HO1 := Lib.hid (HO.out.below hc); have hsc := hc.size; have hcc : Below w1.heap.size wr wc := hc.mono (by omega))
          go_roundw
          case rel => exact ⟨k + 1, by omega, by go_num, Lib.hid (by rw [HN.out]; exact HO1.out), hBr.trans hcc⟩
          case measure => simp [intOf]; omega
        · have HN := Lib.hid (heatTo_in hp)
          go_wp2_with (first
            | (at_builtin; refine wpList_push rfl _ _ 22 rfl Try.underlying22 int64_info (k : Int) rfl HO1.out rfl rfl (by omega) (by omega) ?_; intro v' w3 hO' hB'; have HO' := Lib.hid hO'; clear hO')
            | (go_at_call 59; (refine (heatCut_c b off n k _ _ z a hz HH.out.2 hn hlt (by omega) _ hrk).mono ?_); rintro e wc ⟨rfl, hc⟩; have HO1 := Lib.hid (HO.out.below hc); have hsc := hc.size; have hcc : Below w1.heap.size wr wc := hc.mono (by omega)))
          go_roundw
          case rel => exact ⟨k + 1, by omega, by go_num, Lib.hid (by rw [HN.out]; exact HO'.out), (hBr.trans hcc).trans hB'⟩
          case measure => simp [intOf]; omega
    · obtain rfl : k = n := by omega
      go_wp2
      go_returns
      exact ⟨_, by (rw [HF.out]) <;> rfl, by rw [HF.out]; exact HO.out.mono (by omega), hb1.trans (hBr.mono (by omega))⟩
end Go.Proofs.Yteddchnmjppdeaa
