/- What the rows of the reads give their walks: the library's variables. -/
import Derived.Test.YthemojobalcopaaGreatDoorRH
import Derived.Stop.LaidErr
import Derived.HandedShaped
import Derived.LaidLaws
import Derived.LaidMore
namespace Go.Proofs.YthemojobalcopaaGreatDoor
open Go.ChangeShapes Go.WideShapes Go.ChangeAt Go.RowKit Go.Shelf
set_option linter.unusedVariables false
set_option linter.unusedSimpArgs false

theorem rjTab_eq : (Rows.laid_internal_strconv_uint64pow10 : DataW Unit) = Lib.tabData .u64 Lib.pow10Tab := by rfl
theorem rjTab {r : List (String × DataW Unit)} {W : World} (h : laidMet Tryz.prog (("internal/strconv.uint64pow10", Rows.laid_internal_strconv_uint64pow10) :: r) W) : Tab Tryz.prog W := by
  obtain ⟨ps, ⟨g', t', cs, fuel, p, q, hg', ht', hvar, hd, _, _⟩, _⟩ := h
  obtain rfl := Option.some.inj ((show Tryz.prog.globalNamed "internal/strconv.uint64pow10" = some 0 by kernel_rfl).symm.trans hg')
  obtain ⟨tt, htt⟩ : ∃ tt, (Tryz.prog.globals[0]?).map (·.type) = some tt := ⟨_, ht'⟩
  obtain rfl := Option.some.inj (htt.symm.trans ht')
  rw [rjTab_eq] at hd
  unfold Tab Lib.TabIs
  have hk : ((Tryz.prog.globals[0]?).map (·.type)) = some 113 := by kernel_rfl
  obtain rfl := Option.some.inj (hk.symm.trans htt)
  rw [hvar, ← Lib.cells_of_tab (n := 20) Tryz.underlying113 Tryz.underlying59 (by kernel_rfl) (by kernel_rfl) hd]
theorem rjStar : "*" ++ "errors.errorString" = "*errors.errorString" := by decide
theorem rjRow (u : TypeId) (h : Tryz.prog.typeName? 3 u = some "*errors.errorString") : u = 131 :=
  typeName_ptr_named (nm := "errors.errorString") (by rw [rjStar]; kernel_rfl) (by kernel_rfl) (by decide) u (by rw [rjStar]; exact h)
theorem rjErr {n : String} {g : Nat} {text : List UInt8} {r : List (String × DataW Unit)} {W : World} (hg : Tryz.prog.globalNamed n = some g) (ht : (Tryz.prog.globals[g]?).map (·.type) = some 79) (h : laidMet Tryz.prog ((n, .iface "*errors.errorString" (.ptr (.agg [.lit (.string text)]))) :: r) W) : ∃ tp p, W.var? Tryz.prog n = some #[.iface tp p] := by
  obtain ⟨a0, s0, hv0, -, -, -⟩ := laid_sentinel h hg ht Tryz.underlying79 rjRow Tryz.underlying131 Tryz.underlying133 rfl rfl Tryz.underlying9 (by kernel_rfl) (by kernel_rfl)
  exact ⟨_, _, hv0⟩
theorem rjEnv {W : World} (h : laidMet Tryz.prog Rows.fnRopesRow.laid W) (hs : W.ShapedOpen Tryz.prog) : EnvL W := by
  refine ⟨⟨rjTab h.tail.tail, rjErr (g := 2) (by kernel_rfl) (by kernel_rfl) h.tail.tail.tail.tail.tail, rjErr (g := 3) (by kernel_rfl) (by kernel_rfl) h.tail.tail.tail.tail⟩, ?_⟩
  obtain ⟨m, hm⟩ := splitLay.s1_3 W hs
  exact ⟨m, hm⟩
/-- The frame: what the row lists, and the world's shape, for the walk. -/
theorem rjFrame {H : Type} {enc : TypeId × Value → H} {a : Assume} {C : Checked} {os : Os} {f : FuncId} {fn : Func} {s : ChangeSpec} {conds : List PathCond} {apart fresh handsOn again : Bool} {X : World → Array Value → Prop}
    (hX : ∀ (w w' : World) (args : Array Value), w.heap = w'.heap → X w args → X w' args)
    (own : ownKnob C.prog.godebug = none) (started : os.Started) (noInit : C.prog.inits.idxOf? f = none) (hfn : C.prog.funcs[f]? = some fn)
    (witness : ∃ (w : World) (tape : Tape) (i : Input), w.os = os ∧ (w.forCall tape i).Shaped C.prog ∧ i.vars = [] ∧ Input.okWide C.prog (w.forCall tape i) .any w.heap.size f i ∧
      ((s.pre enc C.prog fn conds apart (w.forCall tape i).memory i.args ∧ X (w.forCall tape i).memory i.args) ∧ sizedMet enc C.prog fn (OpenSpec.ofChange s) apart (w.forCall tape i).memory i.args) ∧ a.holds C.prog (lone (Frame.enter C.prog f i.args .normal) [] (w.forCall tape i)))
    (contract : ∀ (W : World) (base : Nat) (args : Array Value) (ds gs : List (DataW H)) (before : List MemPlace),
      (∀ (j : Nat) t v, fn.params[j]? = some t → args[j]? = some v → Value.okWide C.prog W .any base t v) →
      DataW.Whole enc C.prog fn.params.toList s.vars apart W args.toList ds gs before → X W args → W.ShapedOpen C.prog →
      Calls C.prog f args W fun e W' => ∃ v, e = .returned v ∧ s.post enc C.prog fn apart fresh handsOn again W args v W') :
    ReturnsInHanded a C os f .any (fun w args => (s.pre enc C.prog fn conds apart w args ∧ X w args) ∧ sizedMet enc C.prog fn (OpenSpec.ofChange s) apart w args) (s.post enc C.prog fn apart fresh handsOn again) := by
  refine returnsInHanded_of_calls own started noInit witness ?_
  intro w tape i _ hsh _ hok hpre _
  obtain ⟨_, _, _, fn', hfn', _, _, _, _, hval⟩ := hok
  have e : fn' = fn := Option.some.inj (hfn'.symm.trans hfn)
  subst e
  obtain ⟨⟨⟨ds, gs, before, hw, _⟩, hx⟩, _⟩ := hpre
  refine (contract (w.forCall tape i) w.heap.size i.args ds gs before hval (DataW.Whole.of_heap (w' := w.forCall tape i) (by rfl) hw) (hX _ _ _ (by rfl) hx) hsh).mono fun e W' ⟨v, he, hp⟩ => ?_
  subst he
  exact ChangeSpec.post_blind hp
end Go.Proofs.YthemojobalcopaaGreatDoor
