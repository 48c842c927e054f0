/- A ride, second by second: plain. -/
import Derived.Test.YtmmabkmcgffnpaaQ
namespace Go.Proofs.Ytmmabkmcgffnpaa
set_option linter.unusedVariables false
set_option linter.unusedSimpArgs false

theorem highI_bd {a c r speed : Int} (h0 : r ≤ c) : r ≤ highI a c r speed ∧ highI a c r speed ≤ c := by
  unfold highI
  omega
theorem nextI_bd {a c r y speed left : Int} (a0 : 0 ≤ a) (h0 : r ≤ c) (r0 : 100 ≤ r) (l0 : 0 ≤ left) : 0 ≤ nextI a c r y speed left ∧ nextI a c r y speed left ≤ left ∧ nextI a c r y speed left ≤ c ∧ (0 < left → 0 < nextI a c r y speed left) ∧ min r left ≤ nextI a c r y speed left := by
  have h1 := greatF_at (fun v => mayB a r y v left) r (mayB_self a r y left a0) (highI a c r speed - r).toNat
  have h2 := @highI_bd a c r speed h0
  obtain ⟨k1, k2, _, _⟩ := h1
  unfold nextI
  omega
/-- A ride from a place and a speed on, n seconds at most; what is kept turns second by second, and may end it. -/
def rideF {σ : Type} (step : Int → Int → σ → σ × Bool) (a c r y way : Int) : Nat → Int → Int → σ → σ
  | 0, _, _, s => s
  | n + 1, pl, sp, s =>
    if pl < way then
      (if (step (pl + nextI a c r y sp (way - pl)) (nextI a c r y sp (way - pl)) s).2
       then rideF step a c r y way n (pl + nextI a c r y sp (way - pl)) (nextI a c r y sp (way - pl)) (step (pl + nextI a c r y sp (way - pl)) (nextI a c r y sp (way - pl)) s).1
       else (step (pl + nextI a c r y sp (way - pl)) (nextI a c r y sp (way - pl)) s).1)
    else s
section
variable {σ : Type} {step : Int → Int → σ → σ × Bool} {a c r y way : Int} {n : Nat} {pl sp : Int} {s : σ}
theorem rideF_end (h : ¬ pl < way) : rideF step a c r y way n pl sp s = s := by
  cases n with
  | zero => rfl
  | succ n => rw [rideF, if_neg h]
theorem rideF_go (h : pl < way) (k : (step (pl + nextI a c r y sp (way - pl)) (nextI a c r y sp (way - pl)) s).2 = true) : rideF step a c r y way (n + 1) pl sp s = rideF step a c r y way n (pl + nextI a c r y sp (way - pl)) (nextI a c r y sp (way - pl)) (step (pl + nextI a c r y sp (way - pl)) (nextI a c r y sp (way - pl)) s).1 := by
  rw [rideF, if_pos h, if_pos k]
theorem rideF_stop (h : pl < way) (k : (step (pl + nextI a c r y sp (way - pl)) (nextI a c r y sp (way - pl)) s).2 = false) : rideF step a c r y way (n + 1) pl sp s = (step (pl + nextI a c r y sp (way - pl)) (nextI a c r y sp (way - pl)) s).1 := by
  rw [rideF, if_pos h, k]
  rfl
end
def stTime (_ _ s : Int) : Int × Bool := (s + 1, true)
def stTop (_ v s : Int) : Int × Bool := (max s v, true)
def stFast (fast _ v s : Int) : Int × Bool := (if fast ≤ v then s + 1 else s, true)
def stAt (target pl _ s : Int) : Int × Bool := (s + 1, decide (pl < target))
def timeI (a c r y way : Int) : Int := rideF stTime a c r y way way.toNat 0 0 0

end Go.Proofs.Ytmmabkmcgffnpaa
