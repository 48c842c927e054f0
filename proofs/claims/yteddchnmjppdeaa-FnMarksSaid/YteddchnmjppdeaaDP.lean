/- Plain facts on limits and hours: idle limits change nothing, a speed that is allowed stays allowed, lists of picked places rise. No program in sight. -/
import Derived.Test.YteddchnmjppdeaaK5
namespace Go.Proofs.Yteddchnmjppdeaa
set_option linter.unusedVariables false
set_option linter.unusedSimpArgs false

/-- The places below k at which p holds, in order. -/
def pickTo (p : Nat → Bool) : Nat → List Int
  | 0 => []
  | k + 1 => if p k then pickTo p k ++ [(k : Int)] else pickTo p k
theorem pickTo_nth (p : Nat → Bool) : ∀ k, (∀ j, j < (pickTo p k).length → 0 ≤ nth (pickTo p k) j ∧ nth (pickTo p k) j < k) ∧ (∀ j, j + 1 < (pickTo p k).length → nth (pickTo p k) j < nth (pickTo p k) (j + 1))
  | 0 => ⟨fun j hj => by simp [pickTo] at hj, fun j hj => by simp [pickTo] at hj⟩
  | k + 1 => by
    obtain ⟨h0, h1⟩ := pickTo_nth p k
    simp only [pickTo]
    split
    · have ea : ∀ j, j < (pickTo p k).length → nth (pickTo p k ++ [(k : Int)]) j = nth (pickTo p k) j := fun j hj => by
        simp [nth, List.getD_eq_getElem?_getD, List.getElem?_append_left hj]
      have eb : nth (pickTo p k ++ [(k : Int)]) (pickTo p k).length = k := by simp [nth]
      refine ⟨fun j hj => ?_, fun j hj => ?_⟩
      · rw [List.length_append, List.length_singleton] at hj
        rcases Nat.lt_or_ge j (pickTo p k).length with h | h
        · have := h0 j h
          rw [ea j h]
          omega
        · obtain rfl : j = (pickTo p k).length := by omega
          rw [eb]
          omega
      · rw [List.length_append, List.length_singleton] at hj
        rw [ea j (by omega)]
        rcases Nat.lt_or_ge (j + 1) (pickTo p k).length with h | h
        · rw [ea (j + 1) h]
          exact h1 j h
        · obtain e : j + 1 = (pickTo p k).length := by omega
          rw [e, eb]
          exact (h0 j (by omega)).2
    · refine ⟨fun j hj => ?_, h1⟩
      have := h0 j hj
      omega
theorem pickTo_any (p : Nat → Bool) (i : Nat) : ∀ k, (pickTo p k).any (fun y => decide (y = (i : Int))) = (decide (i < k) && p i)
  | 0 => by simp [pickTo]
  | k + 1 => by
    have h := pickTo_any p i k
    simp only [pickTo]
    rcases Nat.lt_trichotomy i k with g | g | g
    · have e1 : decide (i < k) = true := by simpa using g
      have e2 : decide (i < k + 1) = true := by simp; omega
      rw [e1] at h
      rw [e2]
      split
      · rw [List.any_append, h]
        have : decide ((k : Int) = (i : Int)) = false := by simp; omega
        simp [this]
      · exact h
    · subst g
      have e1 : decide (i < i) = false := by simp
      rw [e1] at h
      split
      · rename_i hp
        rw [List.any_append, h]
        simp [hp]
      · rename_i hp
        rw [h]
        simp [hp]
    · have e1 : decide (i < k) = false := by simp; omega
      have e2 : decide (i < k + 1) = false := by simp; omega
      rw [e1] at h
      rw [e2]
      split
      · rw [List.any_append, h]
        have : decide ((k : Int) = (i : Int)) = false := by simp; omega
        simp [this]
      · exact h
theorem pickTo_len (p : Nat → Bool) : ∀ k, (pickTo p k).length ≤ k
  | 0 => by simp [pickTo]
  | k + 1 => by
    have := pickTo_len p k
    simp only [pickTo]
    split <;> simp <;> omega
theorem idleTo_pick (z : List Int) (n : Nat) : ∀ k, idleTo z n k = pickTo (idleB z n) k
  | 0 => rfl
  | k + 1 => by simp only [idleTo, pickTo, idleTo_pick z n k]
theorem heatTo_pick (z : List Int) (n : Nat) (a : Int) : ∀ k, heatTo z n a k = pickTo (heatB z n a) k
  | 0 => rfl
  | k + 1 => by simp only [heatTo, pickTo, heatTo_pick z n a k]
/-- t is not above what is allowed just if it is below the wish and below each limit that comes in. -/
theorem allowTo_le {z : List Int} {r d x v t : Int} : ∀ n, t ≤ allowTo z r d x v n ↔ t ≤ v ∧ ∀ k, k < n → appB (tA z k) (tB z k) r d x = true → t ≤ tC z k
  | 0 => by simp [allowTo]
  | n + 1 => by
    have h := allowTo_le (z := z) (r := r) (d := d) (x := x) (v := v) (t := t) n
    cases ha : appB (tA z n) (tB z n) r d x
    · rw [allowTo_out ha, h]
      refine ⟨fun ⟨a, b⟩ => ⟨a, fun k hk hp => ?_⟩, fun ⟨a, b⟩ => ⟨a, fun k hk => b k (by omega)⟩⟩
      rcases Nat.lt_or_ge k n with g | g
      · exact b k g hp
      · obtain rfl : k = n := by omega
        rw [ha] at hp
        simp at hp
    · rw [allowTo_in ha]
      constructor
      · intro hm
        obtain ⟨a, b⟩ := h.1 (by omega)
        refine ⟨a, fun k hk hp => ?_⟩
        rcases Nat.lt_or_ge k n with g | g
        · exact b k g hp
        · obtain rfl : k = n := by omega
          omega
      · intro ⟨a, b⟩
        have := h.2 ⟨a, fun k hk => b k (by omega)⟩
        have := b n (by omega) ha
        omega
theorem allowTo_again {z : List Int} {r d x v : Int} {n : Nat} : allowTo z r d x (allowTo z r d x v n) n = allowTo z r d x v n := by
  refine Int.le_antisymm ((allowTo_le n).1 (Int.le_refl _)).1 ?_
  exact (allowTo_le n).2 ⟨Int.le_refl _, ((allowTo_le n).1 (Int.le_refl _)).2⟩
/-- The limits that are not idle, up to place k. -/
def restTo (z : List Int) (n : Nat) : Nat → List Int
  | 0 => []
  | k + 1 => if idleB z n k then restTo z n k else restTo z n k ++ [tA z k, tB z k, tC z k]
def restN (z : List Int) (n : Nat) : Nat → Nat
  | 0 => 0
  | k + 1 => if idleB z n k then restN z n k else restN z n k + 1
theorem restTo_len (z : List Int) (n : Nat) : ∀ k, (restTo z n k).length = restN z n k * 3
  | 0 => rfl
  | k + 1 => by
    have := restTo_len z n k
    simp only [restTo, restN]
    split
    · exact this
    · simp
      omega
theorem restN_le (z : List Int) (n : Nat) : ∀ k, restN z n k ≤ k
  | 0 => by simp [restN]
  | k + 1 => by
    have := restN_le z n k
    simp only [restN]
    split <;> omega
theorem tri_left {y : List Int} {m j : Nat} (hy : y.length = m * 3) (hj : j < m) (a b c : Int) : tA (y ++ [a, b, c]) j = tA y j ∧ tB (y ++ [a, b, c]) j = tB y j ∧ tC (y ++ [a, b, c]) j = tC y j := by
  unfold tA tB tC nth
  simp only [List.getD_eq_getElem?_getD]
  rw [List.getElem?_append_left (by omega), List.getElem?_append_left (by omega), List.getElem?_append_left (by omega)]
  exact ⟨rfl, rfl, rfl⟩
theorem tri_right {y : List Int} {m : Nat} (hy : y.length = m * 3) (a b c : Int) : tA (y ++ [a, b, c]) m = a ∧ tB (y ++ [a, b, c]) m = b ∧ tC (y ++ [a, b, c]) m = c := by
  unfold tA tB tC nth
  simp only [List.getD_eq_getElem?_getD]
  rw [List.getElem?_append_right (by omega), List.getElem?_append_right (by omega), List.getElem?_append_right (by omega)]
  rw [show m * 3 - y.length = 0 by omega, show m * 3 + 1 - y.length = 1 by omega, show m * 3 + 2 - y.length = 2 by omega]
  exact ⟨rfl, rfl, rfl⟩
/-- Each limit of the rest is one of the limits. -/
theorem restTo_from (z : List Int) (n : Nat) : ∀ k j, j < restN z n k → ∃ i, i < k ∧ idleB z n i = false ∧ tA (restTo z n k) j = tA z i ∧ tB (restTo z n k) j = tB z i ∧ tC (restTo z n k) j = tC z i
  | 0, j, hj => by simp [restN] at hj
  | k + 1, j, hj => by
    have hl := restTo_len z n k
    simp only [restTo, restN] at hj ⊢
    by_cases hi : idleB z n k = true
    · rw [if_pos hi] at hj ⊢
      obtain ⟨i, h1, h2⟩ := restTo_from z n k j hj
      exact ⟨i, by omega, h2⟩
    · rw [if_neg hi] at hj ⊢
      rcases Nat.lt_or_ge j (restN z n k) with g | g
      · obtain ⟨i, h1, h2, h3⟩ := restTo_from z n k j g
        obtain ⟨e1, e2, e3⟩ := tri_left hl g (tA z k) (tB z k) (tC z k)
        exact ⟨i, by omega, h2, by rw [e1, e2, e3]; exact h3⟩
      · obtain rfl : j = restN z n k := by omega
        obtain ⟨e1, e2, e3⟩ := tri_right hl (tA z k) (tB z k) (tC z k)
        exact ⟨k, by omega, by simpa using hi, by rw [e1, e2, e3]; exact ⟨rfl, rfl, rfl⟩⟩
/-- Each limit that is not idle is in the rest. -/
theorem restTo_to (z : List Int) (n : Nat) : ∀ k i, i < k → idleB z n i = false → ∃ j, j < restN z n k ∧ tA (restTo z n k) j = tA z i ∧ tB (restTo z n k) j = tB z i ∧ tC (restTo z n k) j = tC z i
  | 0, i, hi, _ => by omega
  | k + 1, i, hi, hb => by
    have hl := restTo_len z n k
    simp only [restTo, restN]
    by_cases hk : idleB z n k = true
    · rw [if_pos hk, if_pos hk]
      have : i ≠ k := fun e => by rw [e, hk] at hb; simp at hb
      exact restTo_to z n k i (by omega) hb
    · rw [if_neg hk, if_neg hk]
      rcases Nat.lt_or_ge i k with g | g
      · obtain ⟨j, h1, h3⟩ := restTo_to z n k i g hb
        obtain ⟨e1, e2, e3⟩ := tri_left hl h1 (tA z k) (tB z k) (tC z k)
        exact ⟨j, by omega, by rw [e1, e2, e3]; exact h3⟩
      · obtain rfl : i = k := by omega
        obtain ⟨e1, e2, e3⟩ := tri_right hl (tA z i) (tB z i) (tC z i)
        exact ⟨restN z n i, by omega, by rw [e1, e2, e3]; exact ⟨rfl, rfl, rfl⟩⟩
theorem lex_lt {n i k c c' b b' : Nat} (hb : b ≤ 1000) (h : c < c' ∨ (c = c' ∧ (b < b' ∨ (b ≤ b' ∧ k < i)))) (hk : k < n) : (c * 1001 + b) * (n + 1) + k < (c' * 1001 + b') * (n + 1) + i := by
  rcases h with h | ⟨rfl, h⟩
  · have h1 : (c * 1001 + b + 1) * (n + 1) ≤ (c' * 1001 + b') * (n + 1) := Nat.mul_le_mul_right _ (by omega)
    rw [Nat.add_mul] at h1
    omega
  · rcases h with h | ⟨h, h'⟩
    · have h1 : (c * 1001 + b + 1) * (n + 1) ≤ (c * 1001 + b') * (n + 1) := Nat.mul_le_mul_right _ (by omega)
      rw [Nat.add_mul] at h1
      omega
    · have h1 : (c * 1001 + b) * (n + 1) ≤ (c * 1001 + b') * (n + 1) := Nat.mul_le_mul_right _ (by omega)
      omega
def lexM (z : List Int) (n i : Nat) : Nat := ((tC z i).toNat * 1001 + (tB z i).toNat) * (n + 1) + i
theorem lexM_lt {z : List Int} {n i k : Nat} (hz : ∀ k, k < n → limOk (tA z k) (tB z k) (tC z k) = true) (hi : i < n) (hk : k < n) (h : betAt z i k = true) : lexM z n k < lexM z n i ∧ tA z k = tA z i ∧ tB z k ≤ tB z i ∧ tC z k ≤ tC z i := by
  simp only [betAt, betI, Bool.and_eq_true, Bool.or_eq_true, Bool.not_eq_true', decide_eq_true_eq, decide_eq_false_iff_not] at h
  obtain ⟨hne, ⟨e1, e2⟩, e3⟩ := h
  obtain ⟨_, ⟨b0, b1⟩, c0, c1⟩ := limOk_true (hz i hi)
  obtain ⟨_, ⟨b0', b1'⟩, c0', c1'⟩ := limOk_true (hz k hk)
  refine ⟨lex_lt (by omega) ?_ hk, e1, e2, by omega⟩
  rcases e3 with h | ⟨h, h'⟩
  · exact .inl (by omega)
  · refine .inr ⟨by omega, ?_⟩
    rcases h' with h' | h'
    · exact .inl (by omega)
    · exact .inr ⟨by omega, h'⟩
/-- For each limit that comes in there is one that is not idle, comes in, and allows no more. -/
theorem idle_better {z : List Int} {n : Nat} {r d x : Int} (hz : ∀ k, k < n → limOk (tA z k) (tB z k) (tC z k) = true) (m : Nat) : ∀ i, i < n → lexM z n i < m → appB (tA z i) (tB z i) r d x = true → ∃ k, k < n ∧ idleB z n k = false ∧ appB (tA z k) (tB z k) r d x = true ∧ tC z k ≤ tC z i := by
  induction m with
  | zero =>
    intro i _ hm
    exact absurd hm (Nat.not_lt_zero _)
  | succ m ih =>
    intro i hi hm ha
    cases hb : idleB z n i
    · exact ⟨i, hi, hb, ha, Int.le_refl _⟩
    · obtain ⟨k, hk, hbet⟩ : ∃ k, k < n ∧ betAt z i k = true := by
        unfold idleB anyN at hb
        obtain ⟨k, hk, h⟩ := List.any_eq_true.1 hb
        exact ⟨k, List.mem_range.1 hk, h⟩
      obtain ⟨h1, e1, e2, e3⟩ := lexM_lt hz hi hk hbet
      have ha' : appB (tA z k) (tB z k) r d x = true := by
        unfold appB at ha ⊢
        simp only [Bool.and_eq_true, decide_eq_true_eq] at ha ⊢
        rw [e1]
        exact ⟨ha.1, by omega⟩
      obtain ⟨q, h1, h2, h3, h4⟩ := ih k hk (by omega) ha'
      exact ⟨q, h1, h2, h3, by omega⟩
theorem rest_same {z : List Int} {n : Nat} {r d x v : Int} (hz : ∀ k, k < n → limOk (tA z k) (tB z k) (tC z k) = true) : allowTo (restTo z n n) r d x v (restN z n n) = allowTo z r d x v n := by
  have key : ∀ t, t ≤ allowTo (restTo z n n) r d x v (restN z n n) ↔ t ≤ allowTo z r d x v n := by
    intro t
    rw [allowTo_le, allowTo_le]
    refine ⟨fun ⟨a, b⟩ => ⟨a, fun i hi ha => ?_⟩, fun ⟨a, b⟩ => ⟨a, fun j hj ha => ?_⟩⟩
    · obtain ⟨k, h1, h2, h3, h4⟩ := idle_better hz _ i hi (Nat.lt_succ_self _) ha
      obtain ⟨j, g1, g2, g3, g4⟩ := restTo_to z n n k h1 h2
      have := b j g1 (by rw [g2, g3]; exact h3)
      omega
    · obtain ⟨i, h1, h2, h3, h4, h5⟩ := restTo_from z n n j hj
      rw [h5]
      exact b i h1 (by rw [← h3, ← h4]; exact ha)
  have h1 := (key _).1 (Int.le_refl _)
  have h2 := (key _).2 (Int.le_refl _)
  omega
theorem rest_limsB {z : List Int} {n : Nat} (h : limsB z n = true) : limsB (restTo z n n) (restN z n n) = true := by
  obtain ⟨h8, hz⟩ := limsB_true h
  have hn := restN_le z n n
  unfold limsB
  rw [Bool.and_eq_true]
  refine ⟨by simp; omega, ?_⟩
  rw [anyN_no]
  · rfl
  intro j hj
  obtain ⟨i, h1, h2, h3, h4, h5⟩ := restTo_from z n n j hj
  unfold badLimit
  rw [h3, h4, h5, hz i h1]
  rfl
/-- What FnLimits asks for behind a speed that is allowed. -/
theorem fAllow_ok {z : List Int} {n : Nat} {r d x v : Int} (h : (fAllow z n r d x v).2 = 0) : limsB z n = true ∧ hourOk r d x = true ∧ 0 ≤ v ∧ v ≤ 20000 ∧ (fAllow z n r d x v).1 = allowTo z r d x v n ∧ 0 ≤ allowTo z r d x v n ∧ allowTo z r d x v n ≤ v ∧ fAllow z n r d x (allowTo z r d x v n) = (allowTo z r d x v n, 0) ∧ fIdle z n = (idleTo z n n, 0) ∧ fAllow (restTo z n n) (restN z n n) r d x v = (allowTo z r d x v n, 0) ∧ fAllow z n r d x v = (allowTo z r d x v n, 0) := by
  cases hl : limsB z n
  · simp [fAllow, hl] at h
  cases hh : hourOk r d x
  · simp [fAllow, hl, hh] at h
  cases hv : inB v 0 20000
  · simp [fAllow, hl, hh, hv] at h
  obtain ⟨v0, v1⟩ := inB_true hv
  have hz := (limsB_true hl).2
  obtain ⟨a0, a1⟩ := allowTo_bd (r := r) (d := d) (x := x) hz v0 v1 n (Nat.le_refl _)
  have a2 := ((allowTo_le (z := z) (r := r) (d := d) (x := x) (v := v) n).1 (Int.le_refl _)).1
  refine ⟨rfl, rfl, v0, v1, by simp [fAllow, hl, hh, hv], a0, a2, ?_, by simp [fIdle, hl], ?_, by simp [fAllow, hl, hh, hv]⟩
  · rw [fAllow, if_pos hl, if_pos hh, if_pos (inB_of a0 a1), allowTo_again]
  · rw [fAllow, if_pos (rest_limsB hl), if_pos hh, if_pos hv, rest_same hz]
/-- What FnLimits asks for behind heater hours. -/
theorem fHeat_ok {z : List Int} {n : Nat} {a : Int} (h : (fHeat z n a).2 = 0) : hoursB z n = true ∧ 0 ≤ a ∧ a ≤ 24 ∧ (fHeat z n a).1 = heatTo z n a n := by
  cases hl : hoursB z n
  · simp [fHeat, hl] at h
  cases hv : inB a 0 24
  · simp [fHeat, hl, hv] at h
  obtain ⟨v0, v1⟩ := inB_true hv
  exact ⟨rfl, v0, v1, by simp [fHeat, hl, hv]⟩
theorem fHeat_no {z : List Int} {n : Nat} {a : Int} (h : (fHeat z n a).2 ≠ 0) : (fHeat z n a).1 = [] := by
  cases hl : hoursB z n
  · simp [fHeat, hl]
  cases hv : inB a 0 24
  · simp [fHeat, hl, hv]
  · simp [fHeat, hl, hv] at h
end Go.Proofs.Yteddchnmjppdeaa
