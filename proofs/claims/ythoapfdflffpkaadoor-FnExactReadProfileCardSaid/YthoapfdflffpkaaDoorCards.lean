/-
  DERIVED. GIVEN WITH THE SEED: THE CARDS: each row of YthoapfdflffpkaaDoorRows.lean that lists a variable, with what it lists TIED to the program's text (the seventh form; the later family's looks); each row that meets fmt, with fmt's text TOLD by the authors' own Lean function (tested against real Go, not proved from fmt's source: count such statements apart). THE CARD IS WHAT COUNTS. Prove the row's statement (the work); the ties are given (YthoapfdflffpkaaDoorTie.lean); close each card by the builder's one call (the guide's Derived/Test/ToyasCard.lean, 'card_holds'). Laid BY PROGRAM, IN A SANDBOX (cutbox-door.mjs). By AI agents, Wed Nov 11 2026. No macro, syntax, notation, axiom, sorry.
-/
import Derived.Test.YthoapfdflffpkaaDoorRows
import GoSem.ClaimSeven
namespace Go.Proofs.YthoapfdflffpkaaDoor
namespace Rows

/-- THE TIED CARD OF 'laws.FnExactHourText'. -/
def fnExactHourTextCard : Claim7 := { stood := { row := fnExactHourTextRow, standIns := [], harness := (true, "b82e092a9d417ccab5af437895a695a595f4477d5bd47cfba57f2013d8550794"), looks := true }, kinds := [], alts := [], laidByText := true, laidKinds := [.data, .data, .data], laidTests := true, laidLooks := .later }
def FnExactHourTextCardSaid : Prop := Claim7.holds Tryd.pinned (.plain (OpenSpec.ofChange fnExactHourTextSpec)) fnExactHourTextCard

/-- THE TIED CARD OF 'laws.FnExactRopeText'. -/
def fnExactRopeTextCard : Claim7 := { stood := { row := fnExactRopeTextRow, standIns := [], harness := (true, "b82e092a9d417ccab5af437895a695a595f4477d5bd47cfba57f2013d8550794"), looks := true }, kinds := [], alts := [], laidByText := true, laidKinds := [.data, .data, .data], laidTests := true, laidLooks := .later }
def FnExactRopeTextCardSaid : Prop := Claim7.holds Tryd.pinned (.plain (OpenSpec.ofChange fnExactRopeTextSpec)) fnExactRopeTextCard

/-- THE TIED CARD OF 'laws.FnExactProfileText'. -/
def fnExactProfileTextCard : Claim7 := { stood := { row := fnExactProfileTextRow, standIns := [], harness := (true, "b82e092a9d417ccab5af437895a695a595f4477d5bd47cfba57f2013d8550794"), looks := true }, kinds := [], alts := [], laidByText := true, laidKinds := [.data, .data, .data], laidTests := true, laidLooks := .later }
def FnExactProfileTextCardSaid : Prop := Claim7.holds Tryd.pinned (.plain (OpenSpec.ofChange fnExactProfileTextSpec)) fnExactProfileTextCard

/-- THE TIED CARD OF 'laws.FnExactReadHour'. -/
def fnExactReadHourCard : Claim7 := { stood := { row := fnExactReadHourRow, standIns := [], harness := (true, "b82e092a9d417ccab5af437895a695a595f4477d5bd47cfba57f2013d8550794"), looks := true }, kinds := [], alts := [], laidByText := true, laidKinds := [.data, .data, .data, .data, .sentinel, .sentinel, .pinned], laidTests := true, laidLooks := .later }
def FnExactReadHourCardSaid : Prop := Claim7.holds Tryd.pinned (.plain (OpenSpec.ofChange fnExactReadHourSpec)) fnExactReadHourCard

/-- THE TIED CARD OF 'laws.FnExactReadProfile'. -/
def fnExactReadProfileCard : Claim7 := { stood := { row := fnExactReadProfileRow, standIns := [], harness := (true, "b82e092a9d417ccab5af437895a695a595f4477d5bd47cfba57f2013d8550794"), looks := true }, kinds := [], alts := [], laidByText := true, laidKinds := [.data, .data, .data, .data, .sentinel, .sentinel, .pinned], laidTests := true, laidLooks := .later }
def FnExactReadProfileCardSaid : Prop := Claim7.holds Tryd.pinned (.plain (OpenSpec.ofChange fnExactReadProfileSpec)) fnExactReadProfileCard

/-- THE TIED CARD OF 'laws.FnExactReadRope'. -/
def fnExactReadRopeCard : Claim7 := { stood := { row := fnExactReadRopeRow, standIns := [], harness := (true, "b82e092a9d417ccab5af437895a695a595f4477d5bd47cfba57f2013d8550794"), looks := true }, kinds := [], alts := [], laidByText := true, laidKinds := [.data, .data, .data, .data, .sentinel, .sentinel, .pinned], laidTests := true, laidLooks := .later }
def FnExactReadRopeCardSaid : Prop := Claim7.holds Tryd.pinned (.plain (OpenSpec.ofChange fnExactReadRopeSpec)) fnExactReadRopeCard

/-- THE TIED CARD OF 'laws.FnWeather'. -/
def fnWeatherCard : Claim7 := { stood := { row := fnWeatherRow, standIns := [], harness := (true, "b82e092a9d417ccab5af437895a695a595f4477d5bd47cfba57f2013d8550794"), looks := true }, kinds := [], alts := [], laidByText := true, laidKinds := [.data, .data, .data, .data, .sentinel, .sentinel, .pinned], laidTests := true, laidLooks := .later }
def FnWeatherCardSaid : Prop := Claim7.holds Tryd.pinned (.plain (OpenSpec.ofChange fnWeatherSpec)) fnWeatherCard

/-- THE SECOND FORM's CARD OF 'laws.FnExactHourText'. -/
def fnExactHourTextUptoCard : Claim7 := { stood := { row := fnExactHourTextUptoRow, standIns := [], harness := (true, "b82e092a9d417ccab5af437895a695a595f4477d5bd47cfba57f2013d8550794"), looks := true }, kinds := [], alts := [], laidByText := true, laidKinds := [.data, .data, .data], laidTests := true, laidLooks := .later }
def FnExactHourTextUptoCardSaid : Prop := Claim7.holds Tryd.pinned (.plain (OpenSpec.upto fnExactHourTextSpec)) fnExactHourTextUptoCard

/-- THE SECOND FORM's CARD OF 'laws.FnExactRopeText'. -/
def fnExactRopeTextUptoCard : Claim7 := { stood := { row := fnExactRopeTextUptoRow, standIns := [], harness := (true, "b82e092a9d417ccab5af437895a695a595f4477d5bd47cfba57f2013d8550794"), looks := true }, kinds := [], alts := [], laidByText := true, laidKinds := [.data, .data, .data], laidTests := true, laidLooks := .later }
def FnExactRopeTextUptoCardSaid : Prop := Claim7.holds Tryd.pinned (.plain (OpenSpec.upto fnExactRopeTextSpec)) fnExactRopeTextUptoCard

/-- THE SECOND FORM's CARD OF 'laws.FnExactProfileText'. -/
def fnExactProfileTextUptoCard : Claim7 := { stood := { row := fnExactProfileTextUptoRow, standIns := [], harness := (true, "b82e092a9d417ccab5af437895a695a595f4477d5bd47cfba57f2013d8550794"), looks := true }, kinds := [], alts := [], laidByText := true, laidKinds := [.data, .data, .data], laidTests := true, laidLooks := .later }
def FnExactProfileTextUptoCardSaid : Prop := Claim7.holds Tryd.pinned (.plain (OpenSpec.upto fnExactProfileTextSpec)) fnExactProfileTextUptoCard

/-- THE SECOND FORM's CARD OF 'laws.FnExactReadHour'. -/
def fnExactReadHourUptoCard : Claim7 := { stood := { row := fnExactReadHourUptoRow, standIns := [], harness := (true, "b82e092a9d417ccab5af437895a695a595f4477d5bd47cfba57f2013d8550794"), looks := true }, kinds := [], alts := [], laidByText := true, laidKinds := [.data, .data, .data, .data, .sentinel, .sentinel, .pinned], laidTests := true, laidLooks := .later }
def FnExactReadHourUptoCardSaid : Prop := Claim7.holds Tryd.pinned (.plain (OpenSpec.upto fnExactReadHourSpec)) fnExactReadHourUptoCard

/-- THE SECOND FORM's CARD OF 'laws.FnExactReadProfile'. -/
def fnExactReadProfileUptoCard : Claim7 := { stood := { row := fnExactReadProfileUptoRow, standIns := [], harness := (true, "b82e092a9d417ccab5af437895a695a595f4477d5bd47cfba57f2013d8550794"), looks := true }, kinds := [], alts := [], laidByText := true, laidKinds := [.data, .data, .data, .data, .sentinel, .sentinel, .pinned], laidTests := true, laidLooks := .later }
def FnExactReadProfileUptoCardSaid : Prop := Claim7.holds Tryd.pinned (.plain (OpenSpec.upto fnExactReadProfileSpec)) fnExactReadProfileUptoCard

/-- THE SECOND FORM's CARD OF 'laws.FnExactReadRope'. -/
def fnExactReadRopeUptoCard : Claim7 := { stood := { row := fnExactReadRopeUptoRow, standIns := [], harness := (true, "b82e092a9d417ccab5af437895a695a595f4477d5bd47cfba57f2013d8550794"), looks := true }, kinds := [], alts := [], laidByText := true, laidKinds := [.data, .data, .data, .data, .sentinel, .sentinel, .pinned], laidTests := true, laidLooks := .later }
def FnExactReadRopeUptoCardSaid : Prop := Claim7.holds Tryd.pinned (.plain (OpenSpec.upto fnExactReadRopeSpec)) fnExactReadRopeUptoCard

/-- THE SECOND FORM's CARD OF 'laws.FnWeather'. -/
def fnWeatherUptoCard : Claim7 := { stood := { row := fnWeatherUptoRow, standIns := [], harness := (true, "b82e092a9d417ccab5af437895a695a595f4477d5bd47cfba57f2013d8550794"), looks := true }, kinds := [], alts := [], laidByText := true, laidKinds := [.data, .data, .data, .data, .sentinel, .sentinel, .pinned], laidTests := true, laidLooks := .later }
def FnWeatherUptoCardSaid : Prop := Claim7.holds Tryd.pinned (.plain (OpenSpec.upto fnWeatherSpec)) fnWeatherUptoCard
end Rows
end Go.Proofs.YthoapfdflffpkaaDoor
