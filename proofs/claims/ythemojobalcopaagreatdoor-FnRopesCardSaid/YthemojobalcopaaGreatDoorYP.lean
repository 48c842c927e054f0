/- The plain law of FnRopes. -/
import Derived.Test.YthemojobalcopaaGreatDoorR
import Derived.Test.YthemojobalcopaaGreatDoorT
namespace Go.Proofs.YthemojobalcopaaGreatDoor
open Go.ChangeShapes Go.WideShapes Go.ChangeAt Go.RowKit
set_option linter.unusedVariables false
set_option linter.unusedSimpArgs false

/-- The pull for a reserve is the greatest one. -/
theorem pull_law {a b c d x p : Int} (h : fPull a b c d x = (p, 0)) : 1 ≤ p ∧ p ≤ 10000000 ∧ ∃ y, fReserve a b c d p = (y, 0) ∧ x ≤ y ∧ ((∃ z, fReserve a b c d (p + 1) = (z, 0) ∧ z < x) ∨ fReserve a b c d (p + 1) = (0, 2)) := by
  cases hok : ropeOk a b c d
  · simp [fPull, hok] at h
  cases hx : inB x 1 100000
  · simp [fPull, hok, hx] at h
  obtain ⟨⟨a0, a1⟩, ⟨b0, b1⟩, ⟨c0, c1⟩, ⟨d0, d1⟩⟩ := ropeOk_true hok
  obtain ⟨x0, x1⟩ := inB_true hx
  simp only [fPull, hok, hx, if_true, Prod.mk.injEq, and_true] at h
  have e1 := Int.ediv_mul_le (1000 * d) (show x ≠ 0 by omega)
  have e2 := Int.lt_ediv_add_one_mul_self (1000 * d) (show 0 < x by omega)
  have q10 : 10 ≤ 1000 * d / x := (Int.le_ediv_iff_mul_le (by omega)).2 (by omega)
  generalize hq : 1000 * d / x = q at *
  have p1 : 1 ≤ p := by omega
  have p2 : p ≤ 10000000 := by omega
  have pq : p ≤ q := by omega
  have m1 : p * x ≤ q * x := Int.mul_le_mul_of_nonneg_right pq (by omega)
  refine ⟨p1, p2, 1000 * d / p, by simp [fReserve, hok, inB_of p1 p2], ?_, ?_⟩
  · refine (Int.le_ediv_iff_mul_le (by omega)).2 ?_
    rw [Int.mul_comm]
    omega
  · by_cases h9 : p = 10000000
    · right
      have : inB (p + 1) 1 10000000 = false := by
        cases g : inB (p + 1) 1 10000000
        · rfl
        · have := inB_true g
          omega
      simp [fReserve, hok, this]
    · left
      refine ⟨1000 * d / (p + 1), by simp [fReserve, hok, inB_of (show 1 ≤ p + 1 by omega) (show p + 1 ≤ 10000000 by omega)], ?_⟩
      have hpq : p = q := by omega
      subst hpq
      refine (Int.ediv_lt_iff_lt_mul (by omega)).2 ?_
      have e5 := Int.mul_comm (p + 1) x
      omega
/-- The rides that are left use up the bendings. -/
theorem left_law {xs : List Int} {d m n : Int} (h : fLeft xs d m = (n, 0)) : (0 ≤ d ∧ d ≤ 1000000000000) ∧ (0 ≤ m ∧ m ≤ 1000000000000) ∧ (0 ≤ n ∧ n ≤ 1000000) ∧ ∃ a, fBend xs n = (a, 0) ∧ (0 ≤ a ∧ a ≤ 1000000000000) ∧ d + a ≤ m ∧ ((∃ b, fBend xs (n + 1) = (b, 0) ∧ (0 ≤ b ∧ b ≤ 1000000000000) ∧ m < d + b) ∨ fBend xs (n + 1) = (0, 2)) := by
  cases hs : shB xs
  · simp [fLeft, hs] at h
  cases hd : inB d 0 1000000000000
  · simp [fLeft, hs, hd] at h
  cases hm : inB m 0 1000000000000
  · simp [fLeft, hs, hd, hm] at h
  obtain ⟨d0, d1⟩ := inB_true hd
  obtain ⟨m0, m1⟩ := inB_true hm
  obtain ⟨hl, hx⟩ := shB_true hs
  have hb := sum_bend hx xs.length (Nat.le_refl _)
  change 0 ≤ bendI xs ∧ bendI xs ≤ 10000 * (xs.length : Int) at hb
  have hb2 : bendI xs ≤ 120000 := by omega
  have hb1 := hb.1
  simp only [fLeft, hs, hd, hm, Bool.and_true, if_true] at h
  generalize hB : bendI xs = B at *
  by_cases hlt : m < d
  · rw [if_pos hlt] at h
    simp at h
  rw [if_neg hlt] at h
  have hno : ∀ k : Int, k = 1000000 → fBend xs (k + 1) = (0, 2) := fun k hk => by
    have : inB (k + 1) 0 1000000 = false := by
      cases g : inB (k + 1) 0 1000000
      · rfl
      · have := inB_true g
        omega
    simp [fBend, hs, this]
  by_cases h0 : B = 0
  · rw [if_pos h0] at h
    simp only [Prod.mk.injEq, and_true] at h
    subst h
    refine ⟨⟨d0, d1⟩, ⟨m0, m1⟩, ⟨by omega, by omega⟩, 0, ?_, ⟨by omega, by omega⟩, by omega, .inr (hno _ rfl)⟩
    simp [fBend, hs, inB_of (show (0 : Int) ≤ 1000000 by omega) (Int.le_refl _), hB, h0]
  · rw [if_neg h0] at h
    simp only [Prod.mk.injEq, and_true] at h
    have B0 : 0 < B := by omega
    have e1 := Int.ediv_mul_le (m - d) h0
    have e2 := Int.lt_ediv_add_one_mul_self (m - d) B0
    have q0 : 0 ≤ (m - d) / B := Int.ediv_nonneg (by omega) hb1
    generalize hq : (m - d) / B = q at *
    have n0 : 0 ≤ n := by omega
    have n1 : n ≤ 1000000 := by omega
    have nq : n ≤ q := by omega
    have k1 : n * B ≤ q * B := Int.mul_le_mul_of_nonneg_right nq hb1
    have k0 : 0 ≤ n * B := Int.mul_nonneg n0 hb1
    have k2 : n * B ≤ 1000000 * B := Int.mul_le_mul_of_nonneg_right n1 hb1
    refine ⟨⟨d0, d1⟩, ⟨m0, m1⟩, ⟨n0, n1⟩, B * n, by simp [fBend, hs, inB_of n0 n1, hB], ⟨by rw [Int.mul_comm]; exact k0, by rw [Int.mul_comm]; omega⟩, by rw [Int.mul_comm]; omega, ?_⟩
    by_cases h9 : n = 1000000
    · exact .inr (hno _ h9)
    · left
      have hnq : n = q := by omega
      subst hnq
      have e3 : B * (n + 1) = (n + 1) * B := Int.mul_comm _ _
      have e4 : (n + 1) * B = n * B + B := by rw [Int.add_mul, Int.one_mul]
      refine ⟨B * (n + 1), by simp [fBend, hs, inB_of (show 0 ≤ n + 1 by omega) (show n + 1 ≤ 1000000 by omega), hB], ⟨by omega, by omega⟩, by omega⟩
/-- Shorter ropes are lighter. -/
theorem cut_law {a b c d l a' b' c' d' : Int} (h : fCut a b c d l = ((a', b', c', d'), 0)) : a' = a - l ∧ (1000 ≤ a ∧ a ≤ 4000000) ∧ (1 ≤ l ∧ l ≤ 4000000) ∧ ropeOk a' b' c' d' = true ∧ ∃ x y, fMass a b c d = (x, 0) ∧ fMass a' b' c' d' = (y, 0) ∧ y ≤ x := by
  cases hok : ropeOk a b c d
  · simp [fCut, hok] at h
  cases hl : inB l 1 4000000
  · simp [fCut, hok, hl] at h
  cases hk : ropeOk (a - l) b c d
  · simp [fCut, hok, hl, hk] at h
  simp only [fCut, hok, hl, hk, if_true, Prod.mk.injEq, and_true] at h
  obtain ⟨rfl, rfl, rfl, rfl⟩ := h
  obtain ⟨⟨a0, a1⟩, ⟨b0, b1⟩, ⟨c0, c1⟩, ⟨d0, d1⟩⟩ := ropeOk_true hok
  obtain ⟨l0, l1⟩ := inB_true hl
  exact ⟨rfl, ⟨a0, a1⟩, ⟨l0, l1⟩, hk, _, _, by simp [fMass, hok]; rfl, by simp [fMass, hk]; rfl, divR_mono (Int.mul_le_mul_of_nonneg_right (by omega) (by omega)) (by omega)⟩
theorem round100 {x : Int} (h : 0 ≤ x) : -50 ≤ 100 * divR x 100 - x ∧ 100 * divR x 100 - x ≤ 50 := by
  have : ¬ x < 0 := by omega
  unfold divR
  rw [if_neg this]
  omega
theorem splice_law {a b c d p a' b' c' d' : Int} (h : fSplice a b c d p = ((a', b', c', d'), 0)) : a' = a ∧ (1000 ≤ d ∧ d ≤ 10000000) ∧ (0 ≤ p ∧ p ≤ 100) ∧ (1000 ≤ d' ∧ d' ≤ d) ∧ ropeOk a' b' c' d' = true ∧ (0 ≤ p * d ∧ p * d ≤ 1000000000) ∧ -50 ≤ 100 * (d - d') - p * d ∧ 100 * (d - d') - p * d ≤ 50 := by
  cases hok : ropeOk a b c d
  · simp [fSplice, hok] at h
  cases hp : inB p 0 100
  · simp [fSplice, hok, hp] at h
  cases hk : ropeOk a b c (d - divR (d * p) 100)
  · simp [fSplice, hok, hp, hk] at h
  simp only [fSplice, hok, hp, hk, if_true, Prod.mk.injEq, and_true] at h
  obtain ⟨rfl, rfl, rfl, rfl⟩ := h
  obtain ⟨⟨a0, a1⟩, ⟨b0, b1⟩, ⟨c0, c1⟩, ⟨d0, d1⟩⟩ := ropeOk_true hok
  obtain ⟨_, _, _, ⟨e0, e1⟩⟩ := ropeOk_true hk
  obtain ⟨p0, p1⟩ := inB_true hp
  have m0 : 0 ≤ d * p := Int.mul_nonneg (by omega) p0
  have m1 : d * p ≤ 10000000 * 100 := Int.mul_le_mul d1 p1 p0 (by omega)
  have r := round100 m0
  have r0 := divR_pos m0 (show (0 : Int) < 100 by omega)
  have ec : p * d = d * p := Int.mul_comm _ _
  rw [ec]
  exact ⟨rfl, ⟨d0, d1⟩, ⟨p0, p1⟩, ⟨e0, by omega⟩, hk, ⟨m0, by omega⟩, by omega, by omega⟩
theorem splice_no {a b c d p a' b' c' d' q : Int} (h : fSplice a b c d p = ((a', b', c', d'), q)) (hq : q ≠ 0) : a' = 0 ∧ b' = 0 ∧ c' = 0 ∧ d' = 0 := by
  unfold fSplice at h
  (repeat' split at h) <;> (simp only [Prod.mk.injEq] at h; omega)
end Go.Proofs.YthemojobalcopaaGreatDoor
