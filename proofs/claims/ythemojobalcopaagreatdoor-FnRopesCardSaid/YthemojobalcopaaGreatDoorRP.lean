/- Numbers and lists read back from their texts: plain. -/
import Derived.Test.YthemojobalcopaaGreatDoorP
import Derived.Lib.AtoiTie
import Derived.Lib.AtoiAllCases
import Derived.Lib.ItoaNum
import Derived.Lib.ItoaMem
import Derived.Lib.Join
import Derived.Lib.SplitLaws
import Derived.Lib.Split
namespace Go.Proofs.YthemojobalcopaaGreatDoor
open Go.Lib
set_option linter.unusedVariables false
set_option linter.unusedSimpArgs false

theorem dig_ofNat {b : UInt8} {d : Nat} (h : digitVal b = some d) : UInt8.ofNat (48 + d) = b ∧ d < 10 := by
  obtain ⟨h1, h2, h3⟩ := digitVal_eq h
  refine ⟨?_, by omega⟩
  apply UInt8.toNat_inj.1
  rw [UInt8.toNat_ofNat_of_lt' (by show 48 + d < 256; omega)]
  omega
theorem dig_val {d : Nat} (h : d < 10) : digitVal (UInt8.ofNat (48 + d)) = some d := by
  have e : (UInt8.ofNat (48 + d)).toNat = 48 + d := UInt8.toNat_ofNat_of_lt' (by show 48 + d < 256; omega)
  unfold digitVal
  rw [e, if_pos (by omega)]
  congr 1
  omega
theorem decDigits_more {a d : Nat} (h0 : 0 < a) (hd : d < 10) : decDigits (a * 10 + d) = decDigits a ++ [UInt8.ofNat (48 + d)] := by
  rw [decDigits, dif_neg (by omega), show (a * 10 + d) / 10 = a by omega, show (a * 10 + d) % 10 = d by omega]
theorem decFrom_dig : ∀ (l : List UInt8) (a m : Nat), 0 < a → decFrom a l = some m → decDigits m = decDigits a ++ l
  | [], a, m, _, h => by
    simp only [decFrom, Option.some.injEq] at h
    subst h
    simp
  | b :: r, a, m, h0, h => by
    rw [decFrom] at h
    cases hd : digitVal b with
    | none =>
      rw [hd] at h
      cases h
    | some d =>
      rw [hd] at h
      obtain ⟨e, hd10⟩ := dig_ofNat hd
      have := decFrom_dig r (a * 10 + d) m (by omega) h
      rw [this, decDigits_more h0 hd10, e]
      simp
theorem decNat_canon {b : UInt8} {r : List UInt8} {m : Nat} (h : decNat (b :: r) = some m) (hb : b = 48 → r = []) : decDigits m = b :: r := by
  obtain ⟨_, h⟩ := decNat_some h
  rw [decFrom] at h
  cases hd : digitVal b with
  | none =>
    rw [hd] at h
    cases h
  | some d =>
    rw [hd] at h
    obtain ⟨e, hd10⟩ := dig_ofNat hd
    simp only [Nat.zero_mul, Nat.zero_add] at h
    rcases Nat.eq_zero_or_pos d with h0 | h0
    · subst h0
      have hr := hb (by rw [← e]; rfl)
      subst hr
      simp only [decFrom, Option.some.injEq] at h
      subst h
      rw [decDigits_one (by omega), e]
    · rw [decFrom_dig r d m h0 h, decDigits_one hd10, e]
      rfl
theorem decDigits_head (u : Nat) : ∃ b r, decDigits u = b :: r ∧ 48 ≤ b.toNat ∧ b.toNat ≤ 57 ∧ (b = 48 → u = 0) := by
  induction u using Nat.strongRecOn with
  | ind u ih =>
    by_cases h : u < 10
    · refine ⟨_, [], decDigits_one h, ?_⟩
      have e : (UInt8.ofNat (48 + u)).toNat = 48 + u := UInt8.toNat_ofNat_of_lt' (by show 48 + u < 256; omega)
      rw [e]
      refine ⟨by omega, by omega, fun hb => ?_⟩
      have := congrArg UInt8.toNat hb
      rw [e] at this
      have e2 : (48 : UInt8).toNat = 48 := rfl
      omega
    · obtain ⟨b, r, h1, h2, h3, h4⟩ := ih (u / 10) (by omega)
      refine ⟨b, r ++ [UInt8.ofNat (48 + u % 10)], ?_, h2, h3, fun hb => ?_⟩
      · rw [decDigits, dif_neg h, h1]
        rfl
      · have := h4 hb
        omega
theorem decFrom_app : ∀ (x y : List UInt8) (a : Nat), decFrom a (x ++ y) = (decFrom a x).bind fun m => decFrom m y
  | [], y, a => rfl
  | b :: r, y, a => by
    rw [List.cons_append, decFrom, decFrom]
    cases hd : digitVal b with
    | none => rfl
    | some d => exact decFrom_app r y _
theorem decFrom_digits (u : Nat) : decFrom 0 (decDigits u) = some u := by
  induction u using Nat.strongRecOn with
  | ind u ih =>
    by_cases h : u < 10
    · rw [decDigits_one h, decFrom, dig_val h]
      simp [decFrom]
    · rw [decDigits, dif_neg h, decFrom_app, ih (u / 10) (by omega)]
      simp only [Option.bind_some]
      rw [decFrom, dig_val (show u % 10 < 10 by omega)]
      simp only [decFrom]
      congr 1
      omega
theorem decNat_digits (u : Nat) : decNat (decDigits u) = some u := by
  obtain ⟨b, r, h, _⟩ := decDigits_head u
  have := decFrom_digits u
  unfold decNat
  rw [h] at this ⊢
  simpa using this
theorem decDigits_len18 : ∀ k u, u < 10 ^ (k + 1) → (decDigits u).length ≤ k + 1
  | 0, u, h => by
    rw [decDigits_one (by simpa using h)]
    simp
  | k + 1, u, h => by
    rw [decDigits]
    split
    · simp
    · have := decDigits_len18 k (u / 10) (by rw [Nat.pow_succ] at h; omega)
      rw [List.length_append]
      simp
      omega
/-- The number with a decimal text of at most 18 digits. -/
def numO : List UInt8 → Option Int
  | [] => none
  | c :: r => if c = 45 then (if r.length ≤ 18 ∧ r.head? ≠ some 48 then (decNat r).map (fun (m : Nat) => -(m : Int)) else none) else (if (c :: r).length ≤ 18 ∧ (c = 48 → r = []) then (decNat (c :: r)).map (fun (m : Nat) => (m : Int)) else none)
theorem numO_some {l : List UInt8} {n : Int} (h : numO l = some n) : itoa n = l ∧ -1000000000000000000 < n ∧ n < 1000000000000000000 := by
  cases l with
  | nil => cases h
  | cons c r =>
    rw [numO] at h
    split at h
    · rename_i hc
      subst hc
      split at h
      · rename_i hr
        obtain ⟨h1, h2⟩ := hr
        obtain ⟨m, hm, rfl⟩ := Option.map_eq_some_iff.1 h
        have hb := decFrom_lt18 (decNat_some hm).2 h1
        cases r with
        | nil => simp [decNat] at hm
        | cons b r =>
          have hd := decNat_canon hm (fun e => absurd (by simp [e]) h2)
          have hm0 : 1 ≤ m := by
            rcases Nat.eq_zero_or_pos m with h0 | h0
            · subst h0
              rw [decDigits_one (by omega)] at hd
              injection hd with e1 _
              exact absurd (by rw [← e1]; rfl) h2
            · exact h0
          exact ⟨by rw [itoa_neg m hm0, hd], by omega, by omega⟩
      · cases h
    · rename_i hc
      split at h
      · rename_i hr
        obtain ⟨h1, h2⟩ := hr
        obtain ⟨m, hm, rfl⟩ := Option.map_eq_some_iff.1 h
        have hb := decFrom_lt18 (decNat_some hm).2 h1
        exact ⟨by rw [itoa_nonneg, decNat_canon hm h2], by omega, by omega⟩
      · cases h
theorem numO_itoa {n : Int} (h0 : -1000000000000 ≤ n) (h1 : n ≤ 1000000000000) : numO (itoa n) = some n := by
  by_cases hn : n < 0
  · obtain ⟨u, rfl⟩ : ∃ u : Nat, n = -(u : Int) := ⟨n.natAbs, by omega⟩
    obtain ⟨b, r, e, b0, b1, b2⟩ := decDigits_head u
    rw [itoa_neg u (by omega), numO, if_pos rfl, if_pos ⟨decDigits_len18 17 u (by omega), by rw [e]; intro hh; simp at hh; have := b2 hh; omega⟩, decNat_digits]
    rfl
  · obtain ⟨u, rfl⟩ : ∃ u : Nat, n = (u : Int) := ⟨n.toNat, by omega⟩
    obtain ⟨b, r, e, b0, b1, b2⟩ := decDigits_head u
    have hl := decDigits_len18 17 u (by omega)
    have hd := decNat_digits u
    rw [itoa_nonneg]
    rw [e] at hl hd ⊢
    have hb : b ≠ 45 := fun hh => by subst hh; simp at b0
    have hr : b = 48 → r = [] := fun hh => by
      have hu := b2 hh
      subst hu
      rw [decDigits_one (by omega)] at e
      injection e with _ e2
      exact e2.symm
    rw [numO, if_neg hb, if_pos ⟨hl, hr⟩, hd]
    rfl
/-- A text without its minus sign. -/
def trimM (l : List UInt8) : List UInt8 := if l.head? = some 45 then l.tail else l
theorem numO_len {l : List UInt8} {n : Int} (h : numO l = some n) : 1 ≤ (trimM l).length ∧ (trimM l).length ≤ 18 := by
  cases l with
  | nil => cases h
  | cons c r =>
    rw [numO] at h
    split at h
    · rename_i hc
      subst hc
      split at h
      · rename_i hr
        obtain ⟨m, hm, _⟩ := Option.map_eq_some_iff.1 h
        have e : trimM (45 :: r) = r := by simp [trimM]
        rw [e]
        refine ⟨?_, hr.1⟩
        cases r with
        | nil => simp [decNat] at hm
        | cons b r => simp
      · cases h
    · rename_i hc
      split at h
      · rename_i hr
        have e : trimM (c :: r) = c :: r := by simp [trimM, hc]
        rw [e]
        exact ⟨by simp, hr.1⟩
      · cases h
theorem ofOption_ok {α : Type} {o : Option α} {v : α} (h : NumEnd.ofOption o = .ok v) : o = some v := by
  cases o with
  | none => cases h
  | some a => simp only [NumEnd.ofOption, NumEnd.ok.injEq] at h; rw [h]
theorem itoa_head (n : Int) : (itoa n).head? = some 45 ∨ ∃ b, (itoa n).head? = some b ∧ 48 ≤ b.toNat ∧ b.toNat ≤ 57 := by
  unfold itoa
  split
  · exact .inl rfl
  · obtain ⟨b, r, e, b0, b1, _⟩ := decDigits_head n.toNat
    exact .inr ⟨b, by rw [e]; rfl, b0, b1⟩
/-- What the library makes of a text whose digits are 1 to 18, if the text is the number's own. -/
theorem parse_num {l : List UInt8} {n : Int} (hl : (trimM l).length ≤ 18) (h : atoiAll l = .ok n) (hi : itoa n = l) : numO l = some n := by
  cases l with
  | nil =>
    have := itoa_head n
    rw [hi] at this
    simp at this
  | cons c r =>
    by_cases hc : c = 45
    · subst hc
      have e : trimM (45 :: r) = r := by simp [trimM]
      rw [e] at hl
      rw [atoiAll_minus, signed_short hl] at h
      have h := ofOption_ok h
      obtain ⟨m, hm, rfl⟩ := Option.map_eq_some_iff.1 h
      have hr : r.head? ≠ some 48 := fun h48 => by
        have hm0 : 1 ≤ m := by
          rcases Nat.eq_zero_or_pos m with h0 | h0
          · subst h0
            rw [show -((0 : Nat) : Int) = ((0 : Nat) : Int) by simp, itoa_nonneg, decDigits_one (by omega)] at hi
            injection hi with e1 _
            exact absurd e1 (by decide)
          · exact h0
        rw [itoa_neg m hm0] at hi
        injection hi with _ hi
        obtain ⟨b, r', e', _, _, b2⟩ := decDigits_head m
        rw [← hi, e'] at h48
        simp at h48
        have := b2 h48
        omega
      rw [numO, if_pos rfl, if_pos ⟨hl, hr⟩]
      exact h
    · have e : trimM (c :: r) = c :: r := by simp [trimM, hc]
      rw [e] at hl
      have h45 : c.toNat ≠ 45 := fun hh => hc (UInt8.toNat_inj.1 hh)
      have h43 : c.toNat ≠ 43 := fun hh => by
        have := itoa_head n
        rw [hi] at this
        simp only [List.head?_cons, Option.some.injEq] at this
        rcases this with h | ⟨b, rfl, b0, b1⟩
        · exact hc h
        · omega
      rw [atoiAll_plain c r h43 h45, signless_short hl] at h
      have h := ofOption_ok h
      obtain ⟨m, hm, rfl⟩ := Option.map_eq_some_iff.1 h
      have hr : c = 48 → r = [] := fun h48 => by
        rw [itoa_nonneg] at hi
        obtain ⟨b, r', e', _, _, b2⟩ := decDigits_head m
        rw [hi] at e'
        injection e' with e1 e2
        have := b2 (by rw [← e1]; exact h48)
        subst this
        rw [decDigits_one (by omega)] at hi
        injection hi with _ hi
        exact hi.symm
      rw [numO, if_neg hc, if_pos ⟨hl, hr⟩]
      exact h
theorem num_parse {l : List UInt8} {n : Int} (h : numO l = some n) : atoiAll l = .ok n := by
  cases l with
  | nil => cases h
  | cons c r =>
    rw [numO] at h
    split at h
    · rename_i hc
      subst hc
      split at h
      · rename_i hr
        rw [atoiAll_minus, signed_short hr.1, h]
        rfl
      · cases h
    · rename_i hc
      split at h
      · rename_i hr
        have h45 : c.toNat ≠ 45 := fun hh => hc (UInt8.toNat_inj.1 hh)
        have h43 : c.toNat ≠ 43 := fun hh => by
          obtain ⟨m, hm, _⟩ := Option.map_eq_some_iff.1 h
          obtain ⟨_, hm⟩ := decNat_some hm
          rw [decFrom] at hm
          have : digitVal c = none := by
            unfold digitVal
            rw [if_neg (by omega)]
          rw [this] at hm
          cases hm
        rw [atoiAll_plain c r h43 h45, signless_short hr.1, h]
        rfl
      · cases h
/-- A text cut at its commas. -/
def cutL : List UInt8 → List (List UInt8)
  | [] => [[]]
  | b :: l => if b = 44 then [] :: cutL l else (match cutL l with | [] => [[b]] | p :: ps => (b :: p) :: ps)
theorem cutL_ne (l : List UInt8) : ∃ p ps, cutL l = p :: ps := by
  cases l with
  | nil => exact ⟨_, _, rfl⟩
  | cons b l =>
    rw [cutL]
    split
    · exact ⟨_, _, rfl⟩
    · split <;> exact ⟨_, _, rfl⟩
theorem cutL_comma (l : List UInt8) : cutL (44 :: l) = [] :: cutL l := by rw [cutL, if_pos rfl]
theorem cutL_app : ∀ {p : List UInt8} (r : List UInt8), 44 ∉ p → cutL (p ++ 44 :: r) = p :: cutL r
  | [], r, _ => cutL_comma r
  | b :: p, r, h => by
    have h1 : b ≠ 44 := fun e => h (by simp [e])
    have h2 : 44 ∉ p := fun e => h (List.mem_cons_of_mem _ e)
    rw [List.cons_append, cutL, if_neg h1, cutL_app r h2]
theorem cutL_one : ∀ {p : List UInt8}, 44 ∉ p → cutL p = [p]
  | [], _ => rfl
  | b :: p, h => by
    have h1 : b ≠ 44 := fun e => h (by simp [e])
    have h2 : 44 ∉ p := fun e => h (List.mem_cons_of_mem _ e)
    rw [cutL, if_neg h1, cutL_one h2]
theorem join_two (x y : List UInt8) (r : List (List UInt8)) : join (x :: y :: r) [44] = x ++ 44 :: join (y :: r) [44] := by
  rw [join_cons, join_cons]
  simp [joinTail]
theorem cutL_join : ∀ (ps : List (List UInt8)), ps ≠ [] → (∀ p ∈ ps, 44 ∉ p) → cutL (join ps [44]) = ps
  | [], h, _ => absurd rfl h
  | [p], _, h => by rw [join_one, cutL_one (h p (by simp))]
  | p :: q :: r, _, h => by rw [join_two, cutL_app _ (h p (by simp)), cutL_join (q :: r) (by simp) (fun x hx => h x (List.mem_cons_of_mem _ hx))]
theorem join_cutL : ∀ l : List UInt8, join (cutL l) [44] = l
  | [] => rfl
  | b :: l => by
    have ih := join_cutL l
    obtain ⟨p, ps, e⟩ := cutL_ne l
    rw [cutL]
    split
    · rename_i h
      subst h
      rw [e, join_two, ← e, ih]
      rfl
    · rw [e] at ih ⊢
      simp only
      rw [join_cons] at ih ⊢
      rw [List.cons_append, ih]
theorem occ_one (l : List UInt8) (j : Nat) : occAt l [44] j = true ↔ l[j]? = some 44 := by
  unfold occAt
  cases h : l.drop j with
  | nil =>
    have : l[j]? = none := by
      rw [List.getElem?_eq_none]
      have := congrArg List.length h
      simp at this
      omega
    simp [this]
  | cons b r =>
    have : l[j]? = some b := by
      have := congrArg (fun x => x[0]?) h
      simpa using this
    rw [this]
    simp [List.isPrefixOf]
    exact eq_comm
theorem notin_of_noocc {l : List UInt8} (h : ∀ j, j ≤ l.length → occAt l [44] j = false) : 44 ∉ l := fun hm => by
  obtain ⟨j, hj, e⟩ := List.mem_iff_getElem.1 hm
  have h1 := (occ_one l j).2 (by rw [List.getElem?_eq_getElem hj, e])
  rw [h j (by omega)] at h1
  cases h1
theorem split_cutL (n : Nat) : ∀ l : List UInt8, l.length ≤ n → splitK [44] 0 (count l [44]) l = cutL l := by
  induction n with
  | zero =>
    intro l hl
    have : l = [] := List.eq_nil_of_length_eq_zero (by omega)
    subst this
    rfl
  | succ n ih =>
    intro l hl
    rcases index_spec l [44] with ⟨h1, h2⟩ | ⟨i, h1, h2, h3, h4⟩
    · rw [count_miss h1, cutL_one (notin_of_noocc h2)]
      rfl
    · rw [count_hit (by simp) h1, Nat.add_comm, splitK]
      have hne : ¬ (index l [44] == -1) = true := fun e => by have := beq_iff_eq.1 e; omega
      rw [if_neg hne, h1]
      simp only [Int.toNat_natCast, Nat.add_zero, List.length_singleton]
      have hi := (occ_one l i).1 h3
      have hil : i < l.length := (List.getElem?_eq_some_iff.1 hi).1
      rw [ih (l.drop (i + 1)) (by rw [List.length_drop]; omega)]
      have e : l = l.take i ++ 44 :: l.drop (i + 1) := by
        have e1 : l.drop i = 44 :: l.drop (i + 1) := by
          rw [List.drop_eq_getElem_cons hil]
          rw [List.getElem?_eq_getElem hil] at hi
          injection hi with hi
          rw [hi]
        rw [← e1, List.take_append_drop]
      have hp : 44 ∉ l.take i := fun hm => by
        obtain ⟨j, hj, e'⟩ := List.mem_iff_getElem.1 hm
        rw [List.length_take] at hj
        have := (occ_one l j).2 (by rw [List.getElem_take] at e'; rw [List.getElem?_eq_getElem (by omega), e'])
        rw [h4 j (by omega)] at this
        cases this
      conv => rhs; rw [e]
      rw [cutL_app _ hp]
/-- Is a part the text of a number of a list; which one (0 if none). -/
def okN (p : List UInt8) : Bool := match numO p with | some n => inB n (-1000000000000) 1000000000000 | none => false
def valN (p : List UInt8) : Int := (numO p).getD 0
def listOk (l : List UInt8) : Bool := decide ((cutL l).length ≤ 64) && (cutL l).all okN
def listV (l : List UInt8) : List Int := (cutL l).map valN
theorem okN_true {p : List UInt8} (h : okN p = true) : itoa (valN p) = p ∧ -1000000000000 ≤ valN p ∧ valN p ≤ 1000000000000 ∧ numO p = some (valN p) := by
  unfold okN at h
  cases hp : numO p with
  | none => rw [hp] at h; cases h
  | some n =>
    rw [hp] at h
    obtain ⟨h1, h2⟩ := inB_true h
    have e : valN p = n := by simp [valN, hp]
    rw [e]
    exact ⟨(numO_some hp).1, h1, h2, rfl⟩
theorem comma_itoa (n : Int) : 44 ∉ itoa n := fun h => by
  have hd : ∀ u, 44 ∉ decDigits u := by
    intro u
    induction u using Nat.strongRecOn with
    | ind u ih =>
      intro h
      have hb : ∀ d, d < 10 → (44 : UInt8) ≠ UInt8.ofNat (48 + d) := fun d hd e => by
        have e1 : (UInt8.ofNat (48 + d)).toNat = 48 + d := UInt8.toNat_ofNat_of_lt' (by show 48 + d < 256; omega)
        rw [← e] at e1
        have e2 : (44 : UInt8).toNat = 44 := rfl
        omega
      by_cases hu : u < 10
      · rw [decDigits_one hu, List.mem_singleton] at h
        exact hb u hu h
      · rw [decDigits, dif_neg hu, List.mem_append, List.mem_singleton] at h
        rcases h with h | h
        · exact ih (u / 10) (by omega) h
        · exact hb (u % 10) (by omega) h
  unfold itoa at h
  split at h
  · rcases List.mem_cons.1 h with h | h
    · exact absurd h (by decide)
    · exact hd _ h
  · exact hd _ h
/-- A list's text, as the program makes it of whatever numbers. -/
def txtL (xs : List Int) : List UInt8 := if 64 < xs.length ∨ xs.any (fun n => !inB n (-1000000000000) 1000000000000) = true then [] else if xs = [] then [45] else join (xs.map itoa) [44]
/-- The program's check of a list against its text finds what the reference finds part by part. -/
theorem txt_listOk (l : List UInt8) : (txtL (listV l) = l) ↔ listOk l = true := by
  obtain ⟨p0, ps0, e0⟩ := cutL_ne l
  have hne : listV l ≠ [] := by simp [listV, e0]
  have hlen : (listV l).length = (cutL l).length := by simp [listV]
  constructor
  · intro h
    unfold txtL at h
    by_cases hc : 64 < (listV l).length ∨ (listV l).any (fun n => !inB n (-1000000000000) 1000000000000) = true
    · rw [if_pos hc] at h
      subst h
      exfalso
      rcases hc with h | h
      · simp [listV, cutL] at h
      · have : (listV []).any (fun n => !inB n (-1000000000000) 1000000000000) = false := by decide
        rw [this] at h
        cases h
    · rw [if_neg hc, if_neg hne] at h
      have hc1 : (cutL l).length ≤ 64 := by rw [← hlen]; omega
      have hc2 : ∀ n ∈ listV l, inB n (-1000000000000) 1000000000000 = true := fun n hn => by
        cases hb : inB n (-1000000000000) 1000000000000
        · exact absurd (.inr (List.any_eq_true.2 ⟨n, hn, by simp [hb]⟩)) hc
        · rfl
      have hcut : cutL l = (listV l).map itoa := by
        conv => lhs; rw [← h]
        refine cutL_join _ (by simpa using hne) (fun p hp => ?_)
        obtain ⟨n, _, rfl⟩ := List.mem_map.1 hp
        exact comma_itoa n
      unfold listOk
      rw [Bool.and_eq_true]
      refine ⟨by simpa using hc1, ?_⟩
      rw [hcut, List.all_map, List.all_eq_true]
      intro n hn
      obtain ⟨b0, b1⟩ := inB_true (hc2 n hn)
      simp only [Function.comp, okN, numO_itoa b0 b1]
      exact inB_of b0 b1
  · intro h
    unfold listOk at h
    rw [Bool.and_eq_true] at h
    have h1 : (cutL l).length ≤ 64 := by simpa using h.1
    have h2 := List.all_eq_true.1 h.2
    unfold txtL
    rw [if_neg, if_neg hne]
    · have : (listV l).map itoa = cutL l := by
        unfold listV
        rw [List.map_map]
        conv => rhs; rw [← List.map_id (cutL l)]
        exact List.map_congr_left fun p hp => (okN_true (h2 p hp)).1
      rw [this, join_cutL]
    · rintro (hc | hc)
      · rw [hlen] at hc
        omega
      · obtain ⟨n, hn, hb⟩ := List.any_eq_true.1 hc
        obtain ⟨p, hp, rfl⟩ := List.mem_map.1 hn
        obtain ⟨_, b0, b1, _⟩ := okN_true (h2 p hp)
        rw [inB_of b0 b1] at hb
        cases hb
/-- Numbers in bounds are read back from their text. -/
theorem read_text {xs : List Int} (hne : xs ≠ []) (hl : xs.length ≤ 64) (hv : ∀ n ∈ xs, -1000000000000 ≤ n ∧ n ≤ 1000000000000) : listOk (join (xs.map itoa) [44]) = true ∧ listV (join (xs.map itoa) [44]) = xs := by
  have hcut : cutL (join (xs.map itoa) [44]) = xs.map itoa := cutL_join _ (by simpa using hne) (fun p hp => by
    obtain ⟨n, _, rfl⟩ := List.mem_map.1 hp
    exact comma_itoa n)
  unfold listOk listV
  rw [hcut]
  refine ⟨?_, ?_⟩
  · rw [Bool.and_eq_true]
    refine ⟨by simpa using hl, ?_⟩
    rw [List.all_map, List.all_eq_true]
    intro n hn
    obtain ⟨b0, b1⟩ := hv n hn
    simp only [Function.comp, okN, numO_itoa b0 b1]
    exact inB_of b0 b1
  · rw [List.map_map]
    conv => rhs; rw [← List.map_id xs]
    refine List.map_congr_left fun n hn => ?_
    obtain ⟨b0, b1⟩ := hv n hn
    simp [Function.comp, valN, numO_itoa b0 b1]
end Go.Proofs.YthemojobalcopaaGreatDoor
