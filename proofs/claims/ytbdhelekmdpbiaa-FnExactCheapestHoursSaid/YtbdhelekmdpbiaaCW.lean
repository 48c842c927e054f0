/- CheapestHours, plain: the hours by price are there and are one alone; what rides they get. -/
import Derived.Test.YtbdhelekmdpbiaaCV
namespace Go.Proofs.Ytbdhelekmdpbiaa
open Go.ChangeShapes Go.WideShapes Go.ChangeAt Go.RowKit
set_option linter.unusedVariables false
set_option linter.unusedSimpArgs false

theorem nth_ext {xs ys : List Int} (hl : xs.length = ys.length) (h : ∀ i, i < xs.length → nth xs i = nth ys i) : xs = ys := by
  refine List.ext_getElem hl fun i h1 h2 => ?_
  have e1 := nth_eq h1
  have e2 := nth_eq h2
  rw [List.getElem?_eq_getElem h1] at e1
  rw [List.getElem?_eq_getElem h2] at e2
  have := h i h1
  injection e1 with e1
  injection e2 with e2
  rw [e1, e2, this]
theorem lx_asym {p : Int → Int} {x y : Int} (h : lx p x y) (k : lx p y x) : False := by
  unfold lx at *
  omega
/-- The first n hours. -/
def hrs : Nat → List Int
  | 0 => []
  | k + 1 => hrs k ++ [(k : Int)]
theorem hrs_len : ∀ n, (hrs n).length = n
  | 0 => rfl
  | k + 1 => by rw [hrs, List.length_append, hrs_len k]; rfl
theorem hrs_at : ∀ n i, i < n → nth (hrs n) i = i
  | 0, i, h => by omega
  | k + 1, i, h => by
    unfold nth
    rw [hrs, List.getD_eq_getElem?_getD]
    by_cases e : i < k
    · rw [List.getElem?_append_left (by rw [hrs_len]; exact e), ← List.getD_eq_getElem?_getD]
      exact hrs_at k i e
    · obtain rfl : i = k := by omega
      rw [List.getElem?_append_right (by rw [hrs_len]; omega), hrs_len]
      simp
theorem hrsI (n : Nat) : HrsI n (hrs n) := ⟨hrs_len n, hrs_at n⟩
theorem ins_is {p : Int → Int} {n i : Nat} {xs : List Int} (hi : i < n) : ∀ (j : Nat) (zs : List Int), j ≤ i → zs.length = n → InsI p 0 i j (nth zs) → PI 0 (i + 1) (nth xs) (nth zs) → ∃ us : List Int, us.length = n ∧ Seg p (nth us) 0 (i + 1) ∧ PI 0 (i + 1) (nth xs) (nth us)
  | 0, zs, hj, hz, h, hp => ⟨zs, hz, ins_stop h (Nat.zero_le _) hj (.inl rfl), hp⟩
  | j + 1, zs, hj, hz, h, hp => by
    by_cases hd : p (nth zs (j + 1)) < p (nth zs j)
    · have hs := sw2_list (show j + 1 < zs.length by omega) (show j < zs.length by omega) (by omega)
      exact ins_is hi j _ (by omega) (by rw [List.length_set, List.length_set]; exact hz) (ins_step h (Nat.zero_le _) hj hd hs) (hp.trans (hs.pi ⟨Nat.zero_le _, by omega⟩ ⟨Nat.zero_le _, by omega⟩))
    · exact ⟨zs, hz, ins_stop h (Nat.zero_le _) hj (.inr (by rw [Nat.add_sub_cancel]; exact hd)), hp⟩
theorem srt_to {p : Int → Int} {n : Nat} {xs : List Int} (hx : HrsI n xs) : ∀ i, i ≤ n → ∃ us : List Int, us.length = n ∧ Seg p (nth us) 0 i ∧ PI 0 i (nth xs) (nth us)
  | 0, _ => ⟨xs, hx.1, fun i j h1 h2 h3 => by omega, PI.refl _ _ _⟩
  | i + 1, h => by
    obtain ⟨us, h1, h2, h3⟩ := srt_to (p := p) hx i (by omega)
    refine ins_is (show i < n by omega) i us (Nat.le_refl _) h1 (ins_start h2 (fun s q1 q2 => ?_) ?_) (h3.wide (Nat.le_refl _) (by omega))
    · obtain ⟨j, j1, j2, e⟩ := h3.2.1 s q1 q2
      rw [e, hx.2 j (by omega)]
      omega
    · rw [h3.1 i (by omega)]
      exact hx.2 i (by omega)
/-- There are hours by price. -/
theorem srt_is {n : Nat} {ps xs : List Int} (hx : HrsI n xs) : ∃ ys, Srt n ps xs ys := by
  obtain ⟨ys, h1, h2, h3⟩ := srt_to (p := pr ps) hx n (Nat.le_refl _)
  exact ⟨ys, h1, h3, h2⟩
/-- They are one alone. -/
theorem srt_one {n : Nat} {ps xs ys zs : List Int} (h : Srt n ps xs ys) (k : Srt n ps xs zs) : ys = zs := by
  obtain ⟨h1, h2, h3⟩ := h
  obtain ⟨k1, k2, k3⟩ := k
  have A : ∀ t, t < n → ∃ v, v < n ∧ nth ys t = nth zs v := fun t ht => by
    obtain ⟨j, _, j2, e⟩ := h2.2.1 t (Nat.zero_le _) ht
    obtain ⟨v, _, v2, e'⟩ := k2.2.2 j (Nat.zero_le _) j2
    exact ⟨v, v2, e.trans e'.symm⟩
  have B : ∀ t, t < n → ∃ v, v < n ∧ nth zs t = nth ys v := fun t ht => by
    obtain ⟨j, _, j2, e⟩ := k2.2.1 t (Nat.zero_le _) ht
    obtain ⟨v, _, v2, e'⟩ := h2.2.2 j (Nat.zero_le _) j2
    exact ⟨v, v2, e.trans e'.symm⟩
  have key : ∀ m t, t ≤ m → t < n → nth ys t = nth zs t := by
    intro m
    induction m with
    | zero =>
      intro t ht htn
      obtain rfl : t = 0 := by omega
      obtain ⟨v, v1, e⟩ := A 0 htn
      obtain ⟨u, u1, e'⟩ := B 0 htn
      by_cases hv : v = 0
      · rw [e, hv]
      · by_cases hu : u = 0
        · rw [← hu, ← e', hu]
        · exact (lx_asym (h3 0 u (Nat.le_refl _) (by omega) u1) (by rw [e, ← e']; exact k3 0 v (Nat.le_refl _) (by omega) v1)).elim
    | succ m ih =>
      intro t ht htn
      obtain ⟨v, v1, e⟩ := A t htn
      obtain ⟨u, u1, e'⟩ := B t htn
      rcases Nat.lt_trichotomy v t with hv | hv | hv
      · have q := ih v (by omega) v1
        have := h3 v t (Nat.zero_le _) hv htn
        rw [e, ← q] at this
        exact (lx_asym this this).elim
      · rw [e, hv]
      · rcases Nat.lt_trichotomy u t with hu | hu | hu
        · have q := ih u (by omega) u1
          have := k3 u t (Nat.zero_le _) hu htn
          rw [e', ← q] at this
          exact (lx_asym this this).elim
        · rw [← hu, ← e', hu]
        · exact (lx_asym (h3 t u (Nat.zero_le _) hu u1) (by rw [e, ← e']; exact k3 t v (Nat.zero_le _) hv v1)).elim
  exact nth_ext (h1.trans k1.symm) fun i hi => key i i (Nat.le_refl _) (by omega)
/-- What is left of r rides when t hours have had their share, at most e each. -/
def lft (r e : Int) : Nat → Int
  | 0 => r
  | t + 1 => lft r e t - min (lft r e t) e
/-- The hours' shares and the sum of the prices. -/
def outs (r e : Int) (ys : List Int) (n : Nat) : Nat → List Int
  | 0 => List.replicate n 0
  | t + 1 => (outs r e ys n t).set (nth ys t).toNat (min (lft r e t) e)
def sums (r e : Int) (ps ys : List Int) : Nat → Int
  | 0 => 0
  | t + 1 => sums r e ps ys t + min (lft r e t) e * nth ps (nth ys t).toNat
theorem lft_bd {r e : Int} (h : 0 ≤ r) (he : 1 ≤ e) : ∀ t, 0 ≤ lft r e t ∧ lft r e t ≤ r
  | 0 => ⟨h, Int.le_refl _⟩
  | t + 1 => by
    have := lft_bd h he t
    rw [lft]
    omega
theorem lft_or {r e : Int} (h : 0 ≤ r) (he : 1 ≤ e) : ∀ t : Nat, lft r e t = 0 ∨ lft r e t + (t : Int) * e = r
  | 0 => .inr (by simp [lft])
  | t + 1 => by
    have q : ((t + 1 : Nat) : Int) * e = (t : Int) * e + e := by rw [Int.natCast_add, Int.add_mul]; simp
    rcases lft_or h he t with k | k
    · refine .inl ?_
      rw [lft, k]
      omega
    · rw [lft, q]
      have := (lft_bd h he t).1
      omega
theorem lft_end {r e : Int} {n : Nat} (h : 0 ≤ r) (he : 1 ≤ e) (hn : r ≤ e * n) : lft r e n = 0 := by
  rcases lft_or h he n with k | k
  · exact k
  · have := (lft_bd h he n).1
    rw [Int.mul_comm] at hn
    omega
theorem lft_mono {r e : Int} (h : 0 ≤ r) (he : 1 ≤ e) {s : Nat} : ∀ d, lft r e (s + d) ≤ lft r e s
  | 0 => Int.le_refl _
  | d + 1 => by
    have h1 := lft_mono h he (s := s) d
    have h2 := (lft_bd h he (s + d)).1
    rw [← Nat.add_assoc, lft]
    omega
theorem outs_len (r e : Int) (ys : List Int) (n : Nat) : ∀ t, (outs r e ys n t).length = n
  | 0 => by simp [outs]
  | t + 1 => by rw [outs, List.length_set, outs_len r e ys n t]
theorem Srt.bd {n : Nat} {ps xs ys : List Int} (h : Srt n ps xs ys) (hx : HrsI n xs) {s : Nat} (hs : s < n) : 0 ≤ nth ys s ∧ nth ys s < n := hx.range h.2.1 s hs
theorem Srt.inj {n : Nat} {ps xs ys : List Int} (h : Srt n ps xs ys) {s t : Nat} (hs : s < n) (ht : t < n) (he : nth ys s = nth ys t) : s = t := by
  rcases Nat.lt_trichotomy s t with k | k | k
  · have := h.2.2 s t (Nat.zero_le _) k ht
    rw [he] at this
    exact (lx_asym this this).elim
  · exact k
  · have := h.2.2 t s (Nat.zero_le _) k hs
    rw [he] at this
    exact (lx_asym this this).elim
theorem Srt.sur {n : Nat} {ps xs ys : List Int} (h : Srt n ps xs ys) (hx : HrsI n xs) {i : Nat} (hi : i < n) : ∃ s, s < n ∧ nth ys s = i := by
  obtain ⟨s, _, s1, e⟩ := h.2.1.2.2 i (Nat.zero_le _) hi
  exact ⟨s, s1, by rw [e, hx.2 i hi]⟩
theorem nth_rep {n i : Nat} : nth (List.replicate n (0 : Int)) i = 0 := by
  unfold nth
  rw [List.getD_eq_getElem?_getD, List.getElem?_replicate]
  split <;> rfl
theorem outs_at {r e : Int} {n : Nat} {ps xs ys : List Int} (h : Srt n ps xs ys) (hx : HrsI n xs) {s : Nat} (hs : s < n) : ∀ t, t ≤ n → nth (outs r e ys n t) (nth ys s).toNat = if s < t then min (lft r e s) e else 0
  | 0, _ => by rw [outs, nth_rep, if_neg (by omega)]
  | t + 1, ht => by
    have hb := h.bd hx (show t < n by omega)
    have hb2 := h.bd hx hs
    rw [outs, nth_set (by rw [outs_len]; omega), outs_at h hx hs t (by omega)]
    by_cases e1 : s = t
    · subst e1
      rw [if_pos rfl, if_pos (by omega)]
    · rw [if_neg (fun q => e1 (h.inj hs (by omega) (by omega)))]
      by_cases e2 : s < t
      · rw [if_pos e2, if_pos (by omega)]
      · rw [if_neg e2, if_neg (by omega)]
theorem outs_stop {r e : Int} {n : Nat} {ps xs ys : List Int} (h : Srt n ps xs ys) (hx : HrsI n xs) (hr : 0 ≤ r) (he : 1 ≤ e) {t : Nat} (ht : t ≤ n) (h0 : lft r e t ≤ 0) : outs r e ys n t = outs r e ys n n ∧ sums r e ps ys t = sums r e ps ys n := by
  have key : ∀ d, t + d ≤ n → outs r e ys n (t + d) = outs r e ys n t ∧ sums r e ps ys (t + d) = sums r e ps ys t := by
    intro d
    induction d with
    | zero => exact fun _ => ⟨rfl, rfl⟩
    | succ d ih =>
      intro hd
      obtain ⟨i1, i2⟩ := ih (by omega)
      have hz : min (lft r e (t + d)) e = 0 := by
        have h1 := lft_mono hr he (s := t) d
        have h2 := (lft_bd hr he (t + d)).1
        omega
      have hb := h.bd hx (show t + d < n by omega)
      rw [← Nat.add_assoc, outs, sums, hz, ← i1, ← i2]
      refine ⟨nth_ext (by rw [List.length_set]) fun i hi => ?_, by simp⟩
      rw [nth_set (by rw [outs_len]; omega)]
      by_cases q : (nth ys (t + d)).toNat = i
      · rw [if_pos q, ← q, outs_at h hx (by omega) (t + d) (by omega), if_neg (by omega)]
      · rw [if_neg q]
  have := key (n - t) (by omega)
  rw [show t + (n - t) = n by omega] at this
  exact ⟨this.1.symm, this.2.symm⟩
theorem mul_bdC {a b A B : Int} (h1 : 0 ≤ a) (h2 : a ≤ A) (h3 : 0 ≤ b) (h4 : b ≤ B) : 0 ≤ a * b ∧ a * b ≤ A * B :=
  ⟨Int.mul_nonneg h1 h3, Int.mul_le_mul h2 h4 h3 (by omega)⟩
theorem sums_bd {r e : Int} {n : Nat} {ps xs ys : List Int} (h : Srt n ps xs ys) (hx : HrsI n xs) (hr : 0 ≤ r) (he : 1 ≤ e) (he2 : e ≤ 1000) (hv : ∀ i, i < n → 0 ≤ nth ps i ∧ nth ps i ≤ 10000) : ∀ t : Nat, t ≤ n → 0 ≤ sums r e ps ys t ∧ sums r e ps ys t ≤ (t : Int) * 10000000
  | 0, _ => by simp [sums]
  | t + 1, ht => by
    have ih := sums_bd h hx hr he he2 hv t (by omega)
    have hb := h.bd hx (show t < n by omega)
    have hp := hv (nth ys t).toNat (by omega)
    have hl := lft_bd hr he t
    have hm := mul_bdC (a := min (lft r e t) e) (A := 1000) (by omega) (by omega) hp.1 hp.2
    rw [sums]
    omega
def notPr (n : Int) : Bool := !inB n 0 10000
/-- What CheapestHours gives, ys the hours by price. -/
def fCheap (ps : List Int) (r e : Int) (ys : List Int) : List Int × Int × Int :=
  if (decide (ps.length ≤ 60) && !ps.any notPr && inB r 0 1000 && inB e 1 1000) then (if e * (ps.length : Int) < r then ([], 0, 5) else (outs r e ys ps.length ps.length, sums r e ps ys ps.length, 0)) else ([], 0, 2)
theorem fCheap_len (ps : List Int) (r e : Int) (ys : List Int) : (fCheap ps r e ys).1.length ≤ ps.length := by
  unfold fCheap
  split
  · split
    · simp
    · rw [outs_len]
      exact Nat.le_refl _
  · simp
theorem fCheap_bad {ps : List Int} {r e : Int} {ys : List Int} (h : (decide (ps.length ≤ 60) && !ps.any notPr && inB r 0 1000 && inB e 1 1000) = false) : fCheap ps r e ys = ([], 0, 2) := by
  rw [fCheap, h]
  rfl
theorem fCheap_full {ps : List Int} {r e : Int} {ys : List Int} (h : (decide (ps.length ≤ 60) && !ps.any notPr && inB r 0 1000 && inB e 1 1000) = true) (h2 : e * (ps.length : Int) < r) : fCheap ps r e ys = ([], 0, 5) := by
  rw [fCheap, h, if_pos rfl, if_pos h2]
theorem fCheap_good {ps : List Int} {r e : Int} {ys : List Int} (h : (decide (ps.length ≤ 60) && !ps.any notPr && inB r 0 1000 && inB e 1 1000) = true) (h2 : ¬ e * (ps.length : Int) < r) : fCheap ps r e ys = (outs r e ys ps.length ps.length, sums r e ps ys ps.length, 0) := by
  rw [fCheap, h, if_pos rfl, if_neg h2]
/-- The best hour among the first i. -/
def BestI (ps out : List Int) (i : Nat) (v : Int) : Prop := (v = -1 ∧ ∀ j, j < i → nth out j ≠ 0) ∨ ∃ b : Nat, v = b ∧ b < i ∧ nth out b = 0 ∧ ∀ j, j < i → nth out j = 0 → j = b ∨ lx (pr ps) b j
theorem best_skip {ps out : List Int} {i : Nat} {v : Int} (h : BestI ps out i v) (hi : nth out i ≠ 0) : BestI ps out (i + 1) v := by
  rcases h with ⟨h1, h2⟩ | ⟨b, h1, h2, h3, h4⟩
  · refine .inl ⟨h1, fun j hj => ?_⟩
    by_cases e : j = i
    · rw [e]; exact hi
    · exact h2 j (by omega)
  · refine .inr ⟨b, h1, by omega, h3, fun j hj hz => ?_⟩
    by_cases e : j = i
    · exact absurd (by rw [← e]; exact hz) hi
    · exact h4 j (by omega) hz
theorem best_first {ps out : List Int} {i : Nat} (h : BestI ps out i (-1)) (hi : nth out i = 0) : BestI ps out (i + 1) i := by
  rcases h with ⟨_, h2⟩ | ⟨b, h1, _⟩
  · refine .inr ⟨i, rfl, by omega, hi, fun j hj hz => ?_⟩
    by_cases e : j = i
    · exact .inl e
    · exact absurd hz (h2 j (by omega))
  · omega
theorem best_new {ps out : List Int} {i b : Nat} (h : BestI ps out i b) (hi : nth out i = 0) (hp : nth ps i < nth ps b) : BestI ps out (i + 1) i := by
  rcases h with ⟨h1, _⟩ | ⟨b', h1, h2, h3, h4⟩
  · omega
  · obtain rfl : b = b' := by omega
    have q : lx (pr ps) i b := .inl (by simpa [pr] using hp)
    refine .inr ⟨i, rfl, by omega, hi, fun j hj hz => ?_⟩
    by_cases e : j = i
    · exact .inl e
    · rcases h4 j (by omega) hz with e' | e'
      · rw [e']; exact .inr q
      · exact .inr (lx_trans q e')
theorem best_keep {ps out : List Int} {i b : Nat} (h : BestI ps out i b) (hp : ¬ nth ps i < nth ps b) : BestI ps out (i + 1) b := by
  rcases h with ⟨h1, _⟩ | ⟨b', h1, h2, h3, h4⟩
  · omega
  · obtain rfl : b = b' := by omega
    refine .inr ⟨b, rfl, by omega, h3, fun j hj hz => ?_⟩
    by_cases e : j = i
    · refine .inr ?_
      have : ¬ pr ps (i : Int) < pr ps (b : Int) := by simpa [pr] using hp
      rw [e]
      unfold lx
      omega
    · exact h4 j (by omega) hz
theorem best_or {ps out : List Int} {i : Nat} {v : Int} (h : BestI ps out i v) : v = -1 ∨ ∃ b : Nat, v = b ∧ b < i := by
  rcases h with ⟨h1, _⟩ | ⟨b, h1, h2, _⟩
  · exact .inl h1
  · exact .inr ⟨b, h1, h2⟩
/-- The search finds the next hour by price. -/
theorem best_is {r e v : Int} {n t : Nat} {ps xs ys : List Int} (h : Srt n ps xs ys) (hx : HrsI n xs) (hr : 0 ≤ r) (he : 1 ≤ e) (ht : t < n) (h0 : 0 < lft r e t) (hb : BestI ps (outs r e ys n t) n v) : v = nth ys t := by
  have zt : nth (outs r e ys n t) (nth ys t).toNat = 0 := by rw [outs_at h hx ht t (by omega), if_neg (by omega)]
  have bt := h.bd hx ht
  rcases hb with ⟨_, h2⟩ | ⟨b, h1, h2, h3, h4⟩
  · exact absurd zt (h2 _ (by omega))
  · obtain ⟨s, s1, s2⟩ := h.sur hx h2
    have hs : t ≤ s := by
      rcases Nat.lt_or_ge s t with q | q
      · have z := outs_at (r := r) (e := e) h hx s1 t (by omega)
        rw [s2, if_pos q, Int.toNat_natCast, h3] at z
        have := lft_mono hr he (s := s) (t - s)
        rw [show s + (t - s) = t by omega] at this
        omega
      · exact q
    rcases h4 (nth ys t).toNat (by omega) zt with q | q
    · omega
    · rw [Int.toNat_of_nonneg bt.1] at q
      rcases Nat.lt_or_ge t s with k | k
      · have := h.2.2 t s (Nat.zero_le _) k s1
        rw [s2] at this
        exact (lx_asym this q).elim
      · rw [h1, ← s2, show s = t by omega]
end Go.Proofs.Ytbdhelekmdpbiaa
