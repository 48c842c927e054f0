/- Plain facts on marks: moved to and fro they are the same, the widest gap stays, and the shift that is found is the least. No program in sight. -/
import Derived.Test.YteddchnmjppdeaaSF
namespace Go.Proofs.Yteddchnmjppdeaa
set_option linter.unusedVariables false
set_option linter.unusedSimpArgs false

theorem riseTo_of {xs : List Int} {lo hi : Int} (hb : ∀ k, k < xs.length → lo ≤ nth xs k ∧ nth xs k ≤ hi) (h : ∀ k, k + 1 < xs.length → nth xs k < nth xs (k + 1)) : ∀ n, n ≤ xs.length → riseTo xs lo hi n = true
  | 0, _ => rfl
  | n + 1, hn => by
    have h1 := riseTo_of hb h n (by omega)
    rw [riseTo, h1, Bool.true_and]
    cases n with
    | zero => exact inB_of (hb 0 (by omega)).1 (hb 0 (by omega)).2
    | succ n =>
      have := h n (by omega)
      rw [stepB, inB_of (hb (n + 1) (by omega)).1 (hb (n + 1) (by omega)).2]
      simp
      omega
theorem marksB_of {xs : List Int} {L : Int} (h0 : 1 ≤ L) (h1 : L ≤ 4000000) (h2 : xs.length ≤ 12) (hb : ∀ k, k < xs.length → 0 ≤ nth xs k ∧ nth xs k ≤ L - 1) (h : ∀ k, k + 1 < xs.length → nth xs k < nth xs (k + 1)) : marksB xs L = true := by
  unfold marksB risesB
  rw [inB_of h0 h1, riseTo_of hb h _ (Nat.le_refl _)]
  simp
  omega
theorem mem_nth {xs : List Int} {z : Int} : z ∈ xs ↔ ∃ j, j < xs.length ∧ nth xs j = z := by
  constructor
  · intro h
    obtain ⟨j, hj, e⟩ := List.mem_iff_getElem.1 h
    refine ⟨j, hj, ?_⟩
    rw [← e, nth, List.getD_eq_getElem?_getD, List.getElem?_eq_getElem hj, Option.getD_some]
  · rintro ⟨j, hj, rfl⟩
    exact nth_mem hj
theorem mvTo_map (xs : List Int) (L s : Int) : mvTo xs L s xs.length = xs.map (fun m => (m + s) % L) := by
  have h : ∀ k, k ≤ xs.length → mvTo xs L s k = (xs.take k).map (fun m => (m + s) % L) := by
    intro k
    induction k with
    | zero => intro _; simp [mvTo]
    | succ k ih =>
      intro hk
      have e : xs.take (k + 1) = xs.take k ++ [nth xs k] := by
        rw [List.take_add_one, List.getElem?_eq_getElem (by omega)]
        simp only [Option.toList, nth, List.getD_eq_getElem?_getD, List.getElem?_eq_getElem (show k < xs.length by omega), Option.getD_some]
      rw [mvTo, ih (by omega), e, List.map_append]
      rfl
  rw [h _ (Nat.le_refl _), List.take_length]
theorem pairs_rise {xs : List Int} (h : xs.Pairwise (fun a b => a < b)) : ∀ k, k + 1 < xs.length → nth xs k < nth xs (k + 1) := by
  intro k hk
  have := List.pairwise_iff_getElem.1 h k (k + 1) (by omega) hk (by omega)
  unfold nth
  rw [List.getD_eq_getElem?_getD, List.getD_eq_getElem?_getD, List.getElem?_eq_getElem (by omega), List.getElem?_eq_getElem hk, Option.getD_some, Option.getD_some]
  exact this
theorem rise_pairs {xs : List Int} (h : ∀ k, k + 1 < xs.length → nth xs k < nth xs (k + 1)) : xs.Pairwise (fun a b => a < b) := by
  refine List.pairwise_iff_getElem.2 fun i j hi hj hij => ?_
  have := rise_lt h j hij hj
  unfold nth at this
  rw [List.getD_eq_getElem?_getD, List.getD_eq_getElem?_getD, List.getElem?_eq_getElem (by omega), List.getElem?_eq_getElem hj, Option.getD_some, Option.getD_some] at this
  exact this
/-- The marks behind a shift are marks. -/
theorem moved_marks {xs : List Int} {L : Int} (s : Int) (h : marksB xs L = true) : marksB (sortI (mvTo xs L s xs.length)) L = true ∧ (sortI (mvTo xs L s xs.length)).length = xs.length ∧ (sortI (mvTo xs L s xs.length)).Perm (xs.map (fun m => (m + s) % L)) := by
  obtain ⟨⟨l0, l1⟩, hn, hb, hr⟩ := marksB_true h
  have hl : (sortI (mvTo xs L s xs.length)).length = xs.length := by rw [sortI_len, mvTo_len]
  have hp : (sortI (mvTo xs L s xs.length)).Perm (xs.map (fun m => (m + s) % L)) := by
    have := sortI_perm (mvTo xs L s xs.length)
    rwa [← mvTo_map] 
  have hnd : (xs.map (fun m => (m + s) % L)).Pairwise (fun a b => a ≠ b) := by
    rw [List.pairwise_map]
    refine (rise_pairs hr).imp_of_mem ?_
    intro a b ha hb' hab e
    obtain ⟨i, hi, rfl⟩ := mem_nth.1 ha
    obtain ⟨j, hj, rfl⟩ := mem_nth.1 hb'
    have b1 := hb i hi
    have b2 := hb j hj
    have := shift_inj (by omega) (by omega) (by omega) (by omega) e
    omega
  have hnd' : (sortI (mvTo xs L s xs.length)).Pairwise (fun a b => a ≠ b) := hp.symm.pairwise hnd (fun e => e.symm)
  refine ⟨marksB_of l0 l1 (by omega) (fun k hk => ?_) (pairs_rise ?_), hl, hp⟩
  · obtain ⟨m, hm, e⟩ := List.mem_map.1 (hp.mem_iff.1 (nth_mem hk))
    have e0 := Int.emod_nonneg (m + s) (show L ≠ 0 by omega)
    have e1 := Int.emod_lt_of_pos (m + s) (show 0 < L by omega)
    omega
  · exact ((sortI_le _).and hnd').imp (fun ⟨h1, h2⟩ => by omega)
theorem back_mod {m s L : Int} (h0 : 0 ≤ m) (h1 : m < L) : ((m + s) % L + -s) % L = m := by
  rw [Int.emod_add_emod, show m + s + -s = m by omega, Int.emod_eq_of_lt h0 h1]
/-- Moved to and fro they are the same. -/
theorem moved_back {xs : List Int} {L : Int} (s : Int) (h : marksB xs L = true) : sortI (mvTo (sortI (mvTo xs L s xs.length)) L (-s) (sortI (mvTo xs L s xs.length)).length) = xs := by
  obtain ⟨⟨l0, l1⟩, hn, hb, hr⟩ := marksB_true h
  obtain ⟨h1, h2, h3⟩ := moved_marks s h
  refine (sortI_eq ?_ ((rise_pairs hr).imp (fun h => by omega))).symm
  rw [mvTo_map]
  refine List.Perm.symm ((h3.map _).trans ?_)
  rw [List.map_map]
  have : xs.map ((fun m => (m + -s) % L) ∘ fun m => (m + s) % L) = xs := by
    conv => rhs; rw [← List.map_id xs]
    refine List.map_congr_left fun m hm => ?_
    obtain ⟨i, hi, rfl⟩ := mem_nth.1 hm
    have := hb i hi
    exact back_mod (by omega) (by omega)
  rw [this]
/-- Is there a mark behind which no other comes nearer than t? -/
def gapP (xs : List Int) (L t : Int) : Prop := ∃ m ∈ xs, ∀ m' ∈ xs, t ≤ (m' - m - 1) % L + 1
theorem gapTo_le {xs : List Int} {L t : Int} : ∀ k, t ≤ gapTo xs L k ↔ t ≤ nth xs 0 + L - nth xs (xs.length - 1) ∨ ∃ i, i < k ∧ t ≤ nth xs (i + 1) - nth xs i
  | 0 => by simp [gapTo]
  | k + 1 => by
    have h := gapTo_le (xs := xs) (L := L) (t := t) k
    rw [gapTo]
    constructor
    · intro hm
      rcases Int.le_total (gapTo xs L k) (nth xs (k + 1) - nth xs k) with h1 | h1
      · exact .inr ⟨k, by omega, by omega⟩
      · rcases h.1 (by omega) with h2 | ⟨i, h2, h3⟩
        · exact .inl h2
        · exact .inr ⟨i, by omega, h3⟩
    · rintro (h2 | ⟨i, h2, h3⟩)
      · have := h.2 (.inl h2)
        omega
      · rcases Nat.lt_or_ge i k with h4 | h4
        · have := h.2 (.inr ⟨i, h4, h3⟩)
          omega
        · obtain rfl : i = k := by omega
          omega
theorem gap_up {a L : Int} (h0 : 1 ≤ a) (h1 : a ≤ L) : (a - 1) % L + 1 = a := by
  rw [Int.emod_eq_of_lt (by omega) (by omega)]
  omega
theorem gap_down {a L : Int} (h0 : a ≤ 0) (h1 : -L < a) : (a - 1) % L + 1 = a + L := by
  rw [← Int.add_emod_right, Int.emod_eq_of_lt (by omega) (by omega)]
  omega
theorem rise_le {xs : List Int} (h : ∀ k, k + 1 < xs.length → nth xs k < nth xs (k + 1)) {i j : Nat} (hij : i ≤ j) (hj : j < xs.length) : nth xs i ≤ nth xs j := by
  rcases Nat.lt_or_ge i j with g | g
  · have := rise_lt h j g hj
    omega
  · obtain rfl : i = j := by omega
    omega
theorem gap_is {xs : List Int} {L t : Int} (h : marksB xs L = true) (hn : 0 < xs.length) : t ≤ gapTo xs L (xs.length - 1) ↔ gapP xs L t := by
  obtain ⟨⟨l0, l1⟩, _, hb, hr⟩ := marksB_true h
  have b0 := hb 0 hn
  have bl := hb (xs.length - 1) (by omega)
  rw [gapTo_le]
  constructor
  · rintro (h1 | ⟨i, h1, h2⟩)
    · refine ⟨nth xs (xs.length - 1), nth_mem (by omega), fun m' hm' => ?_⟩
      obtain ⟨j, hj, rfl⟩ := mem_nth.1 hm'
      have b := hb j hj
      have e1 := rise_le hr (show j ≤ xs.length - 1 by omega) (by omega)
      have e2 := rise_le hr (show 0 ≤ j by omega) hj
      rw [gap_down (by omega) (by omega)]
      omega
    · refine ⟨nth xs i, nth_mem (by omega), fun m' hm' => ?_⟩
      obtain ⟨j, hj, rfl⟩ := mem_nth.1 hm'
      have b := hb j hj
      have bi := hb i (by omega)
      have bi' := hb (i + 1) (by omega)
      rcases Nat.lt_or_ge i j with g | g
      · have e1 := rise_le hr (show i + 1 ≤ j by omega) hj
        have e2 := hr i (by omega)
        rw [gap_up (by omega) (by omega)]
        omega
      · have e1 := rise_le hr g (by omega)
        rw [gap_down (by omega) (by omega)]
        omega
  · rintro ⟨m, hm, hall⟩
    obtain ⟨i, hi, rfl⟩ := mem_nth.1 hm
    have bi := hb i hi
    rcases Nat.lt_or_ge (i + 1) xs.length with g | g
    · have := hall (nth xs (i + 1)) (nth_mem g)
      have e2 := hr i g
      have bi' := hb (i + 1) g
      rw [gap_up (by omega) (by omega)] at this
      exact .inr ⟨i, by omega, this⟩
    · obtain e : i = xs.length - 1 := by omega
      have := hall (nth xs 0) (nth_mem hn)
      have e1 := rise_le hr (show 0 ≤ i by omega) hi
      rw [gap_down (by omega) (by omega)] at this
      rw [← e]
      exact .inl (by omega)
theorem gapP_moved {xs ys : List Int} {L s t : Int} (hp : ys.Perm (xs.map (fun m => (m + s) % L))) : gapP ys L t ↔ gapP xs L t := by
  have e : ∀ a b : Int, ((a + s) % L - (b + s) % L - 1) % L = (a - b - 1) % L := by
    intro a b
    have h1 := Int.emod_add_mul_ediv (a + s) L
    have h2 := Int.emod_add_mul_ediv (b + s) L
    have h3 : (a + s) % L - (b + s) % L - 1 = (a - b - 1) + L * ((b + s) / L - (a + s) / L) := by
      rw [Int.mul_sub]
      omega
    rw [h3, Int.add_mul_emod_self_left]
  constructor
  · rintro ⟨m, hm, hall⟩
    obtain ⟨u, hu, rfl⟩ := List.mem_map.1 (hp.mem_iff.1 hm)
    refine ⟨u, hu, fun m' hm' => ?_⟩
    have := hall _ (hp.mem_iff.2 (List.mem_map.2 ⟨m', hm', rfl⟩))
    simp only [e] at this
    exact this
  · rintro ⟨m, hm, hall⟩
    refine ⟨_, hp.mem_iff.2 (List.mem_map.2 ⟨m, hm, rfl⟩), fun m' hm' => ?_⟩
    obtain ⟨u, hu, rfl⟩ := List.mem_map.1 (hp.mem_iff.1 hm')
    simp only [e]
    exact hall u hu
theorem gap_moved {xs : List Int} {L : Int} (s : Int) (h : marksB xs L = true) (hn : 0 < xs.length) : gapTo (sortI (mvTo xs L s xs.length)) L (xs.length - 1) = gapTo xs L (xs.length - 1) := by
  obtain ⟨h1, h2, h3⟩ := moved_marks s h
  have key : ∀ t, t ≤ gapTo (sortI (mvTo xs L s xs.length)) L (xs.length - 1) ↔ t ≤ gapTo xs L (xs.length - 1) := fun t => by
    have := gap_is (t := t) h1 (by rw [h2]; exact hn)
    rw [h2] at this
    rw [this, gap_is h hn]
    exact gapP_moved h3
  have a := (key _).1 (Int.le_refl _)
  have b := (key _).2 (Int.le_refl _)
  omega
theorem gap_ge {xs : List Int} {L : Int} (h : marksB xs L = true) (hn : 0 < xs.length) : 1 ≤ gapTo xs L (xs.length - 1) ∧ L ≤ gapTo xs L (xs.length - 1) * xs.length := by
  obtain ⟨⟨l0, l1⟩, _, hb, hr⟩ := marksB_true h
  have b0 := hb 0 hn
  have bl := hb (xs.length - 1) (by omega)
  have hle := (gapTo_le (xs := xs) (L := L) (t := gapTo xs L (xs.length - 1)) (xs.length - 1)).1 (Int.le_refl _)
  have hG : ∀ t, (t ≤ nth xs 0 + L - nth xs (xs.length - 1) ∨ ∃ i, i < xs.length - 1 ∧ t ≤ nth xs (i + 1) - nth xs i) → t ≤ gapTo xs L (xs.length - 1) := fun t => (gapTo_le _).2
  generalize gapTo xs L (xs.length - 1) = G at *
  have g1 := hG _ (.inl (Int.le_refl _))
  have g2 : ∀ i : Nat, i < xs.length → nth xs i ≤ nth xs 0 + G * i := by
    intro i
    induction i with
    | zero => intro _; simp
    | succ i ih =>
      intro hi
      have := ih (by omega)
      have := hG _ (.inr ⟨i, by omega, Int.le_refl _⟩)
      have e : G * ((i + 1 : Nat) : Int) = G * i + G := by rw [Int.natCast_add, Int.mul_add]; simp
      omega
  have g3 := g2 (xs.length - 1) (by omega)
  have e : G * (xs.length : Int) = G * ((xs.length - 1 : Nat) : Int) + G := by
    have : (xs.length : Int) = ((xs.length - 1 : Nat) : Int) + 1 := by omega
    rw [this, Int.mul_add]
    simp
  exact ⟨by omega, by omega⟩
/-- What FnMarks asks for behind marks that were moved. -/
theorem fMarks_ok {xs : List Int} {L s : Int} (h : (fMarks xs L s).2 = 0) : ∃ ys, fMarks xs L s = (ys, 0) ∧ fMarks ys L (-s) = (xs, 0) ∧ ys.length = xs.length ∧ xs.length ≤ 12 ∧ 1 ≤ L ∧ L ≤ 4000000 ∧ -4000000 ≤ s ∧ s ≤ 4000000 ∧ ((xs.length = 0 ∧ fGap xs L = (0, 3) ∧ fGap ys L = (0, 3)) ∨ (0 < xs.length ∧ ∃ G, fGap xs L = (G, 0) ∧ fGap ys L = (G, 0) ∧ 1 ≤ G ∧ G ≤ 8000000 ∧ L ≤ G * xs.length)) := by
  cases hm : marksB xs L
  · simp [fMarks, hm] at h
  cases hs : inB s (-4000000) 4000000
  · simp [fMarks, hm, hs] at h
  obtain ⟨s0, s1⟩ := inB_true hs
  obtain ⟨⟨l0, l1⟩, hn, hb, hr⟩ := marksB_true hm
  obtain ⟨h1, h2, h3⟩ := moved_marks s hm
  refine ⟨sortI (mvTo xs L s xs.length), by simp [fMarks, hm, hs], ?_, h2, hn, l0, l1, s0, s1, ?_⟩
  · rw [fMarks, if_pos h1, if_pos (inB_of (by omega) (by omega)), moved_back s hm]
  · rcases Nat.eq_zero_or_pos xs.length with h0 | h0
    · exact .inl ⟨h0, by simp [fGap, hm, h0], by rw [fGap, if_pos h1, if_pos (by rw [h2]; exact h0)]⟩
    · have hg := gap_moved s hm h0
      obtain ⟨g0, g1⟩ := gap_ge hm h0
      refine .inr ⟨h0, gapTo xs L (xs.length - 1), ?_, ?_, g0, ?_, g1⟩
      · rw [fGap, if_pos hm, if_neg (by omega)]
      · rw [fGap, if_pos h1, if_neg (by omega), h2, hg]
      · have := (gapTo_le (xs := xs) (L := L) (t := gapTo xs L (xs.length - 1)) (xs.length - 1)).1 (Int.le_refl _)
        rcases this with h5 | ⟨i, h5, h6⟩
        · have := hb 0 h0
          have := hb (xs.length - 1) (by omega)
          omega
        · have := hb i (by omega)
          have := hb (i + 1) (by omega)
          omega
theorem fMarks_no {xs : List Int} {L s : Int} (h : (fMarks xs L s).2 ≠ 0) : (fMarks xs L s).1 = [] := by
  cases hm : marksB xs L
  · simp [fMarks, hm]
  cases hs : inB s (-4000000) 4000000
  · simp [fMarks, hm, hs]
  · simp [fMarks, hm, hs] at h
/-- The shift that is found is the least one. -/
theorem freeB_is {xs : List Int} {L t s : Int} : freeB xs L t s = true ↔ ∀ m ∈ xs, t ≤ min ((m + s) % L) (L - (m + s) % L) := by
  unfold freeB
  rw [Bool.not_eq_true', List.any_eq_false]
  constructor
  · intro h m hm
    have := h m hm
    simp only [nearI, decide_eq_true_eq] at this
    omega
  · intro h m hm
    have := h m hm
    simp only [nearI, decide_eq_true_eq]
    omega
theorem freeB_not {xs : List Int} {L t s : Int} (h : freeB xs L t s = false) : ∃ m ∈ xs, min ((m + s) % L) (L - (m + s) % L) < t := by
  unfold freeB at h
  rw [Bool.not_eq_false', List.any_eq_true] at h
  obtain ⟨m, hm, h⟩ := h
  exact ⟨m, hm, by simpa [nearI] using h⟩
theorem free_cand {xs : List Int} {L t : Int} (hL : 1 ≤ L) (ht : 0 ≤ t) {s : Int} (s0 : 0 ≤ s) (s1 : s + 1 < L) (hf : freeB xs L t (s + 1) = true) (hp : freeB xs L t s = false) : ∃ j, j < xs.length ∧ s + 1 = shAt xs L t j := by
  obtain ⟨m, hm, hn⟩ := freeB_not hp
  have hf' := freeB_is.1 hf m hm
  have p0 := Int.emod_nonneg (m + s) (show L ≠ 0 by omega)
  have p1 := Int.emod_lt_of_pos (m + s) (show 0 < L by omega)
  have hq : (m + (s + 1)) % L = ((m + s) % L + 1) % L := by
    rw [Int.emod_add_emod]
    congr 1
    omega
  obtain ⟨j, hj, rfl⟩ := mem_nth.1 hm
  generalize hpe : (nth xs j + s) % L = p at *
  rcases Int.lt_or_le (p + 1) L with h1 | h1
  · rw [Int.emod_eq_of_lt (by omega) h1] at hq
    rw [hq] at hf'
    have e : p + 1 = t := by omega
    refine ⟨j, hj, ?_⟩
    have : (t - nth xs j) % L = s + 1 := by
      have e2 : (nth xs j + (s + 1)) % L = t % L := by rw [hq, e, Int.emod_eq_of_lt (by omega) (by omega)]
      have e3 : (t - nth xs j) % L = ((nth xs j + (s + 1)) - nth xs j) % L := by
        rw [Int.sub_emod, ← e2, ← Int.sub_emod]
      rw [e3, show nth xs j + (s + 1) - nth xs j = s + 1 by omega, Int.emod_eq_of_lt (by omega) s1]
    exact this.symm
  · obtain e : p + 1 = L := by omega
    rw [e, Int.emod_self] at hq
    rw [hq] at hf'
    omega
theorem free_least {xs : List Int} {L t : Int} (hL : 1 ≤ L) (ht : 0 ≤ t) (h0 : freeB xs L t 0 = false) : ∀ s : Nat, (s : Int) < L → freeB xs L t s = true → ∃ j, j < xs.length ∧ shAt xs L t j ≤ s ∧ freeB xs L t (shAt xs L t j) = true
  | 0, _, hf => by
    rw [show ((0 : Nat) : Int) = 0 from rfl, h0] at hf
    cases hf
  | s + 1, hs, hf => by
    cases hp : freeB xs L t s
    · obtain ⟨j, hj, e⟩ := free_cand hL ht (by omega) (by omega) (by rw [← Int.natCast_succ]; exact hf) hp
      refine ⟨j, hj, by omega, ?_⟩
      rw [← e, ← Int.natCast_succ]
      exact hf
    · obtain ⟨j, hj, h1, h2⟩ := free_least hL ht h0 s (by omega) hp
      exact ⟨j, hj, by omega, h2⟩
theorem fShift_ok {xs : List Int} {L t : Int} (h : (fShift xs L t).2 = 0) : ∃ n, fShift xs L t = (n, 0) ∧ 0 ≤ n ∧ n < L ∧ 1 ≤ L ∧ L ≤ 4000000 ∧ 0 ≤ t ∧ xs.length ≤ 12 ∧ (∀ k, k < xs.length → 0 ≤ nth xs k ∧ nth xs k ≤ L - 1) ∧ freeB xs L t n = true ∧ ∀ b, 0 ≤ b → b < n → freeB xs L t b = false := by
  cases hm : marksB xs L
  · simp [fShift, hm] at h
  cases hs : inB t 0 4000000
  · simp [fShift, hm, hs] at h
  obtain ⟨t0, t1⟩ := inB_true hs
  obtain ⟨⟨l0, l1⟩, hn, hb, hr⟩ := marksB_true hm
  have e : fShift xs L t = fShiftI xs L t := by simp [fShift, hm, hs]
  rw [e] at h ⊢
  cases h0 : freeB xs L t 0
  · have e2 : fShiftI xs L t = if bestSh xs L t xs.length < 0 then (0, 3) else (bestSh xs L t xs.length, 0) := by simp [fShiftI, h0]
    rcases bestSh_is (xs := xs) (t := t) (show 0 < L by omega) xs.length with ⟨h1, h2⟩ | ⟨h1, h2, ⟨j, hj, e3⟩, h4⟩
    · rw [e2, if_pos (by omega)] at h
      simp at h
    · rw [if_neg (by omega)] at e2
      have u0 := Int.emod_nonneg (t - nth xs j) (show L ≠ 0 by omega)
      have u1 := Int.emod_lt_of_pos (t - nth xs j) (show 0 < L by omega)
      have e4 : shAt xs L t j = (t - nth xs j) % L := rfl
      refine ⟨_, e2, h1, by omega, l0, l1, t0, hn, hb, h2, fun b b0 b1 => ?_⟩
      cases hf : freeB xs L t b
      · rfl
      · obtain ⟨i, hi, h5, h6⟩ := free_least l0 t0 h0 b.toNat (by omega) (by rw [show (b.toNat : Int) = b by omega]; exact hf)
        have := h4 i hi h6
        omega
  · exact ⟨0, by simp [fShiftI, h0], by omega, by omega, l0, l1, t0, hn, hb, h0, fun b b0 b1 => by omega⟩
theorem fShift_no {xs : List Int} {L t : Int} (h : (fShift xs L t).2 ≠ 0) : (fShift xs L t).1 = 0 := by
  cases hm : marksB xs L
  · simp [fShift, hm]
  cases hs : inB t 0 4000000
  · simp [fShift, hm, hs]
  have e : fShift xs L t = fShiftI xs L t := by simp [fShift, hm, hs]
  rw [e] at h ⊢
  unfold fShiftI at h ⊢
  split
  · rfl
  · split
    · rfl
    · rename_i h1 h2
      rw [if_neg h1, if_neg h2] at h
      simp at h
end Go.Proofs.Yteddchnmjppdeaa
