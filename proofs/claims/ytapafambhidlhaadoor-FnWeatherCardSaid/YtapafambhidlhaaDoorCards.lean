/-
  DERIVED. GIVEN WITH THE SEED: THE CARDS: each row of YtapafambhidlhaaDoorRows.lean that lists a variable, with what it lists TIED to the program's text (the seventh form; the later family's looks); each row that meets fmt, with fmt's text TOLD by the authors' own Lean function (tested against real Go, not proved from fmt's source: count such statements apart). THE CARD IS WHAT COUNTS. Prove the row's statement (the work); the ties are given (YtapafambhidlhaaDoorTie.lean); close each card by the builder's one call (the guide's Derived/Test/ToyasCard.lean, 'card_holds'). Laid BY PROGRAM, IN A SANDBOX (cutbox-door.mjs). By AI agents, Wed Nov 11 2026. No macro, syntax, notation, axiom, sorry.
-/
import Derived.Test.YtapafambhidlhaaDoorRows
import GoSem.ClaimSeven
namespace Go.Proofs.YtapafambhidlhaaDoor
namespace Rows

/-- THE TIED CARD OF 'laws.FnWeather'. -/
def fnWeatherCard : Claim7 := { stood := { row := fnWeatherRow, standIns := [], harness := (true, "61a1365c4efa5af9d23f91a4f12a228ff0a0d60623c7c6e7d3a0d394d4d86ce0"), looks := true }, kinds := [], alts := [], laidByText := true, laidKinds := [.data, .data, .data, .data, .sentinel, .sentinel, .pinned], laidTests := true, laidLooks := .later }
def FnWeatherCardSaid : Prop := Claim7.holds Tryd.pinned (.plain (OpenSpec.ofChange fnWeatherSpec)) fnWeatherCard

/-- THE SECOND FORM's CARD OF 'laws.FnWeather'. -/
def fnWeatherUptoCard : Claim7 := { stood := { row := fnWeatherUptoRow, standIns := [], harness := (true, "61a1365c4efa5af9d23f91a4f12a228ff0a0d60623c7c6e7d3a0d394d4d86ce0"), looks := true }, kinds := [], alts := [], laidByText := true, laidKinds := [.data, .data, .data, .data, .sentinel, .sentinel, .pinned], laidTests := true, laidLooks := .later }
def FnWeatherUptoCardSaid : Prop := Claim7.holds Tryd.pinned (.plain (OpenSpec.upto fnWeatherSpec)) fnWeatherUptoCard
end Rows
end Go.Proofs.YtapafambhidlhaaDoor
