/- A law's argument that is a slice of structs of numbers: how it reads. -/
import Derived.Test.YtbdhelekmdpbiaaS
import Derived.Deep.Slices
import Derived.Deep.Fields
import Derived.ChangeArms
namespace Go.Proofs.Ytbdhelekmdpbiaa
open Go.ChangeShapes Go.WideShapes Go.ChangeAt Go.RowKit Go.Deep
set_option linter.unusedVariables false
set_option linter.unusedSimpArgs false

/-- What a law's argument that is a slice of structs of m numbers gives: all their numbers in one list. -/
def StructArg (m : Nat) (W : World) (A : Option Addr) (n : Nat) (z : List Int) : Prop := z.length = n * m ∧ n ≤ 9223372036854775807 ∧ RowI W A z ∧ ∀ x ∈ z, I64 x
section
variable {H : Type} {enc : TypeId × Value → H} {P : Program} {W : World} {t e : TypeId} {fs : Array Field} {m : Nat}
/-- One struct: each of its cells is a number. -/
theorem struct_cells {fuel : Nat} {cs : List Value} {x : DataW H × List MemPlace} (he : P.underlying e = some (.struct fs)) (hone : oneCellFields P fs = true) (hC : P.cellsOf e = m) (hm : fs.size = m) (hint : ∀ (j : Nat) (f : Field), fs[j]? = some f → P.underlying f.type = some (.int .i64))
    (h : DataW.trod enc P W 0 (fun _ => true) true fuel e cs = some x) (j : Nat) (hj : j < m) : ∃ v : Int, I64 v ∧ cs[j]? = some (.int .i64 v) := by
  obtain ⟨xs, k, _, _, hlen, hxl, hf⟩ := DataW.trod_struct he h
  have hjf : j < fs.size := by omega
  have hfj : fs[j]? = some fs[j] := Array.getElem?_eq_getElem hjf
  obtain ⟨ho, hk⟩ := hone_of hone j _ hfj
  have h1 := hf j _ hfj
  rw [ho, hk] at h1
  have hjc : j < cs.length := by omega
  have hcut : (cs.drop j).take 1 = [cs[j]] := by
    rw [List.drop_eq_getElem_cons hjc]
    rfl
  rw [hcut, List.getElem?_eq_getElem (by omega)] at h1
  obtain ⟨v, hv, _, hw⟩ := DataW.trod_int (hint j _ hfj) h1
  refine ⟨v, i64_of hw, ?_⟩
  rw [List.getElem?_eq_getElem hjc]
  simpa using hv
theorem structRow_core {fuel : Nat} {cs : List Value} {x : DataW H × List MemPlace} (ht : P.underlying t = some (.slice e)) (he : P.underlying e = some (.struct fs)) (hone : oneCellFields P fs = true) (hC : P.cellsOf e = m) (hm : fs.size = m) (hint : ∀ (j : Nat) (f : Field), fs[j]? = some f → P.underlying f.type = some (.int .i64))
    (h : DataW.trod enc P W 0 (fun _ => true) true fuel t cs = some x) : ∃ A n c z, cs = [.slice A n c] ∧ StructArg m W A n z := by
  rcases open_slice ht h with ⟨rfl, _⟩ | ⟨a, len, cap, mm, nn, D, Pl, rfl, _, hl, hmx, hmm, _, hi⟩
  · exact ⟨none, 0, 0, [], rfl, by simp, by omega, fun h => by simp at h, by simp⟩
  · unfold maxLen at hmx
    simp only [if_true] at hmm
    subst hmm
    rw [hC] at hi
    have hq : ∀ q, q < len * m → ∃ v : Int, I64 v ∧ W.cell? (a.add q) = some (.int .i64 v) := fun q hq => by
      have hm0 : 0 < m := by
        rcases Nat.eq_zero_or_pos m with g | g
        · subst g; simp at hq
        · exact g
      have hdiv : q / m < len := Nat.div_lt_of_lt_mul (by rw [Nat.mul_comm]; exact hq)
      have hmod : q % m < m := Nat.mod_lt _ hm0
      obtain ⟨cs', hc, hd⟩ := hi (q / m) (by omega)
      obtain ⟨_, _, hat⟩ := World.cells?_some hc
      obtain ⟨v, hv, hcv⟩ := struct_cells he hone hC hm hint hd (q % m) hmod
      refine ⟨v, hv, ?_⟩
      have := hat (q % m) hmod
      rw [Go.Deep.add_add, Nat.div_add_mod'] at this
      rw [this, hcv]
    obtain ⟨F, hF⟩ : ∃ F : Nat → Int, ∀ q, q < len * m → I64 (F q) ∧ W.cell? (a.add q) = some (.int .i64 (F q)) :=
      ⟨fun q => if g : q < len * m then (hq q g).choose else 0, fun q g => by simp only [dif_pos g]; exact (hq q g).choose_spec⟩
    clear hq
    refine ⟨some a, len, mm, (List.range (len * m)).map F, rfl, by simp, by omega, fun hn => ?_, fun x hx => ?_⟩
    · simp only [List.length_map, List.length_range] at hn
      obtain ⟨b, off, spot⟩ := a
      have hspot : spot = none := by simpa [Addr.add] using World.cell?_spot (hF 0 hn).2
      subst hspot
      have hcell : ∀ q, q < len * m → W.cell? ⟨b, off + q, none⟩ = some (.int .i64 (F q)) := fun q g => by
        have := (hF q g).2
        unfold Addr.add at this
        by_cases h0 : q = 0
        · subst h0; simpa using this
        · simpa [h0] using this
      refine ⟨b, off, rfl, lt_of_cell (hcell 0 hn), fun i hi' => ?_⟩
      simp only [List.length_map, List.length_range] at hi'
      rw [hcell i hi']
      simp [nth, hi']
    · obtain ⟨q, hq', rfl⟩ := List.mem_map.1 hx
      exact (hF q (List.mem_range.1 hq')).1
theorem structRow_of_trod {A : Option Addr} {n c : Nat} {d : DataW H} {p : List MemPlace} (ht : P.underlying t = some (.slice e)) (he : P.underlying e = some (.struct fs)) (hone : oneCellFields P fs = true) (hC : P.cellsOf e = m) (hm : fs.size = m) (hint : ∀ (j : Nat) (f : Field), fs[j]? = some f → P.underlying f.type = some (.int .i64))
    (h : DataW.Trod enc P W 0 (fun _ => true) true t (.slice A n c) d p) : ∃ z, StructArg m W A n z := by
  obtain ⟨fuel, hf⟩ := h
  obtain ⟨A', n', c', z, hcs, hz⟩ := structRow_core ht he hone hC hm hint hf
  simp [Value.cells] at hcs
  obtain ⟨rfl, rfl, rfl⟩ := hcs
  exact ⟨z, hz⟩
theorem structRow_of_field {fuel : Nat} {v : Value} {x : DataW H × List MemPlace} (ht : P.underlying t = some (.slice e)) (he : P.underlying e = some (.struct fs)) (hone : oneCellFields P fs = true) (hC : P.cellsOf e = m) (hm : fs.size = m) (hint : ∀ (j : Nat) (f : Field), fs[j]? = some f → P.underlying f.type = some (.int .i64))
    (h : DataW.trod enc P W 0 (fun _ => true) true fuel t [v] = some x) : ∃ A n c z, v = .slice A n c ∧ StructArg m W A n z := by
  obtain ⟨A, n, c, z, hcs, hz⟩ := structRow_core ht he hone hC hm hint h
  simp at hcs
  exact ⟨A, n, c, z, hcs, hz⟩
end
end Go.Proofs.Ytbdhelekmdpbiaa
