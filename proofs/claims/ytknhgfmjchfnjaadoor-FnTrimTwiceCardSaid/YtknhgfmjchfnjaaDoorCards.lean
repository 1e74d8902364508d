/-
  DERIVED. GIVEN WITH THE SEED: THE CARDS: each row of YtknhgfmjchfnjaaDoorRows.lean that lists a variable, with what it lists TIED to the program's text (the seventh form; the later family's looks); each row that meets fmt, with fmt's text TOLD by the authors' own Lean function (tested against real Go, not proved from fmt's source: count such statements apart). THE CARD IS WHAT COUNTS. Prove the row's statement (the work); the ties are given (YtknhgfmjchfnjaaDoorTie.lean); close each card by the builder's one call (the guide's Derived/Test/ToyasCard.lean, 'card_holds'). Laid BY PROGRAM, IN A SANDBOX (cutbox-door.mjs). By AI agents, Wed Nov 11 2026. No macro, syntax, notation, axiom, sorry.
-/
import Derived.Test.YtknhgfmjchfnjaaDoorRows
import GoSem.ClaimSeven
namespace Go.Proofs.YtknhgfmjchfnjaaDoor
namespace Rows

/-- THE TIED CARD OF 'laws.FnTrimTraces'. -/
def fnTrimTracesCard : Claim7 := { stood := { row := fnTrimTracesRow, standIns := [], harness := (true, "b9a9d5422fe25ecbcef0d6f6bb037e8ed1c93dde9addd339a274bc9adb75fd69"), looks := false }, kinds := [], alts := [], laidByText := true, laidKinds := [.data, .data], laidTests := true, laidLooks := .later }
def FnTrimTracesCardSaid : Prop := Claim7.holds Tryd.pinned (.plain (OpenSpec.ofChange fnTrimTracesSpec)) fnTrimTracesCard

/-- THE TIED CARD OF 'laws.FnTracesGrow'. -/
def fnTracesGrowCard : Claim7 := { stood := { row := fnTracesGrowRow, standIns := [], harness := (true, "b9a9d5422fe25ecbcef0d6f6bb037e8ed1c93dde9addd339a274bc9adb75fd69"), looks := false }, kinds := [], alts := [], laidByText := true, laidKinds := [.data, .data], laidTests := true, laidLooks := .later }
def FnTracesGrowCardSaid : Prop := Claim7.holds Tryd.pinned (.plain (OpenSpec.ofChange fnTracesGrowSpec)) fnTracesGrowCard

/-- THE TIED CARD OF 'laws.FnTracesUpTo'. -/
def fnTracesUpToCard : Claim7 := { stood := { row := fnTracesUpToRow, standIns := [], harness := (true, "b9a9d5422fe25ecbcef0d6f6bb037e8ed1c93dde9addd339a274bc9adb75fd69"), looks := false }, kinds := [], alts := [], laidByText := true, laidKinds := [.data, .data], laidTests := true, laidLooks := .later }
def FnTracesUpToCardSaid : Prop := Claim7.holds Tryd.pinned (.plain (OpenSpec.ofChange fnTracesUpToSpec)) fnTracesUpToCard

/-- THE TIED CARD OF 'laws.FnTrimTwice'. -/
def fnTrimTwiceCard : Claim7 := { stood := { row := fnTrimTwiceRow, standIns := [], harness := (true, "b9a9d5422fe25ecbcef0d6f6bb037e8ed1c93dde9addd339a274bc9adb75fd69"), looks := false }, kinds := [], alts := [], laidByText := true, laidKinds := [.data, .data], laidTests := true, laidLooks := .later }
def FnTrimTwiceCardSaid : Prop := Claim7.holds Tryd.pinned (.plain (OpenSpec.ofChange fnTrimTwiceSpec)) fnTrimTwiceCard

/-- THE TIED CARD OF 'laws.FnSystemStill'. -/
def fnSystemStillCard : Claim7 := { stood := { row := fnSystemStillRow, standIns := [], harness := (true, "b9a9d5422fe25ecbcef0d6f6bb037e8ed1c93dde9addd339a274bc9adb75fd69"), looks := false }, kinds := [], alts := [], laidByText := true, laidKinds := [.data, .data], laidTests := true, laidLooks := .later }
def FnSystemStillCardSaid : Prop := Claim7.holds Tryd.pinned (.plain (OpenSpec.ofChange fnSystemStillSpec)) fnSystemStillCard

/-- THE TIED CARD OF 'laws.FnRunBegins'. -/
def fnRunBeginsCard : Claim7 := { stood := { row := fnRunBeginsRow, standIns := [], harness := (true, "b9a9d5422fe25ecbcef0d6f6bb037e8ed1c93dde9addd339a274bc9adb75fd69"), looks := false }, kinds := [], alts := [], laidByText := true, laidKinds := [.data, .data], laidTests := true, laidLooks := .later }
def FnRunBeginsCardSaid : Prop := Claim7.holds Tryd.pinned (.plain (OpenSpec.ofChange fnRunBeginsSpec)) fnRunBeginsCard

/-- THE TIED CARD OF 'laws.FnRunOf'. -/
def fnRunOfCard : Claim7 := { stood := { row := fnRunOfRow, standIns := [], harness := (true, "b9a9d5422fe25ecbcef0d6f6bb037e8ed1c93dde9addd339a274bc9adb75fd69"), looks := false }, kinds := [], alts := [], laidByText := true, laidKinds := [.data, .data], laidTests := true, laidLooks := .later }
def FnRunOfCardSaid : Prop := Claim7.holds Tryd.pinned (.plain (OpenSpec.ofChange fnRunOfSpec)) fnRunOfCard

/-- THE SECOND FORM's CARD OF 'laws.FnTrimTraces'. -/
def fnTrimTracesUptoCard : Claim7 := { stood := { row := fnTrimTracesUptoRow, standIns := [], harness := (true, "b9a9d5422fe25ecbcef0d6f6bb037e8ed1c93dde9addd339a274bc9adb75fd69"), looks := false }, kinds := [], alts := [], laidByText := true, laidKinds := [.data, .data], laidTests := true, laidLooks := .later }
def FnTrimTracesUptoCardSaid : Prop := Claim7.holds Tryd.pinned (.plain (OpenSpec.upto fnTrimTracesSpec)) fnTrimTracesUptoCard

/-- THE SECOND FORM's CARD OF 'laws.FnTracesGrow'. -/
def fnTracesGrowUptoCard : Claim7 := { stood := { row := fnTracesGrowUptoRow, standIns := [], harness := (true, "b9a9d5422fe25ecbcef0d6f6bb037e8ed1c93dde9addd339a274bc9adb75fd69"), looks := false }, kinds := [], alts := [], laidByText := true, laidKinds := [.data, .data], laidTests := true, laidLooks := .later }
def FnTracesGrowUptoCardSaid : Prop := Claim7.holds Tryd.pinned (.plain (OpenSpec.upto fnTracesGrowSpec)) fnTracesGrowUptoCard

/-- THE SECOND FORM's CARD OF 'laws.FnTracesUpTo'. -/
def fnTracesUpToUptoCard : Claim7 := { stood := { row := fnTracesUpToUptoRow, standIns := [], harness := (true, "b9a9d5422fe25ecbcef0d6f6bb037e8ed1c93dde9addd339a274bc9adb75fd69"), looks := false }, kinds := [], alts := [], laidByText := true, laidKinds := [.data, .data], laidTests := true, laidLooks := .later }
def FnTracesUpToUptoCardSaid : Prop := Claim7.holds Tryd.pinned (.plain (OpenSpec.upto fnTracesUpToSpec)) fnTracesUpToUptoCard

/-- THE SECOND FORM's CARD OF 'laws.FnTrimTwice'. -/
def fnTrimTwiceUptoCard : Claim7 := { stood := { row := fnTrimTwiceUptoRow, standIns := [], harness := (true, "b9a9d5422fe25ecbcef0d6f6bb037e8ed1c93dde9addd339a274bc9adb75fd69"), looks := false }, kinds := [], alts := [], laidByText := true, laidKinds := [.data, .data], laidTests := true, laidLooks := .later }
def FnTrimTwiceUptoCardSaid : Prop := Claim7.holds Tryd.pinned (.plain (OpenSpec.upto fnTrimTwiceSpec)) fnTrimTwiceUptoCard

/-- THE SECOND FORM's CARD OF 'laws.FnSystemStill'. -/
def fnSystemStillUptoCard : Claim7 := { stood := { row := fnSystemStillUptoRow, standIns := [], harness := (true, "b9a9d5422fe25ecbcef0d6f6bb037e8ed1c93dde9addd339a274bc9adb75fd69"), looks := false }, kinds := [], alts := [], laidByText := true, laidKinds := [.data, .data], laidTests := true, laidLooks := .later }
def FnSystemStillUptoCardSaid : Prop := Claim7.holds Tryd.pinned (.plain (OpenSpec.upto fnSystemStillSpec)) fnSystemStillUptoCard

/-- THE SECOND FORM's CARD OF 'laws.FnRunBegins'. -/
def fnRunBeginsUptoCard : Claim7 := { stood := { row := fnRunBeginsUptoRow, standIns := [], harness := (true, "b9a9d5422fe25ecbcef0d6f6bb037e8ed1c93dde9addd339a274bc9adb75fd69"), looks := false }, kinds := [], alts := [], laidByText := true, laidKinds := [.data, .data], laidTests := true, laidLooks := .later }
def FnRunBeginsUptoCardSaid : Prop := Claim7.holds Tryd.pinned (.plain (OpenSpec.upto fnRunBeginsSpec)) fnRunBeginsUptoCard

/-- THE SECOND FORM's CARD OF 'laws.FnRunOf'. -/
def fnRunOfUptoCard : Claim7 := { stood := { row := fnRunOfUptoRow, standIns := [], harness := (true, "b9a9d5422fe25ecbcef0d6f6bb037e8ed1c93dde9addd339a274bc9adb75fd69"), looks := false }, kinds := [], alts := [], laidByText := true, laidKinds := [.data, .data], laidTests := true, laidLooks := .later }
def FnRunOfUptoCardSaid : Prop := Claim7.holds Tryd.pinned (.plain (OpenSpec.upto fnRunOfSpec)) fnRunOfUptoCard
end Rows
end Go.Proofs.YtknhgfmjchfnjaaDoor
