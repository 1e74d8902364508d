/-
  DERIVED. GIVEN WITH THE SEED: THE CARDS: each row of YtnjakhojdhkihaaDoorRows.lean that lists a variable, with what it lists TIED to the program's text (the seventh form; the later family's looks); each row that meets fmt, with fmt's text TOLD by the authors' own Lean function (tested against real Go, not proved from fmt's source: count such statements apart). THE CARD IS WHAT COUNTS. Prove the row's statement (the work); the ties are given (YtnjakhojdhkihaaDoorTie.lean); close each card by the builder's one call (the guide's Derived/Test/ToyasCard.lean, 'card_holds'). Laid BY PROGRAM, IN A SANDBOX (cutbox-door.mjs). By AI agents, Wed Nov 11 2026. No macro, syntax, notation, axiom, sorry.
-/
import Derived.Test.YtnjakhojdhkihaaDoorRows
import GoSem.ClaimSeven
namespace Go.Proofs.YtnjakhojdhkihaaDoor
namespace Rows

/-- THE TIED CARD OF 'laws.FnExactFormatSystem'. -/
def fnExactFormatSystemCard : Claim7 := { stood := { row := fnExactFormatSystemRow, standIns := [], harness := (true, "ecbee7073966a11b669beef456cd1f9ca89c10dd162cd6d84d77f3cc38e01aa5"), looks := false }, kinds := [], alts := [], laidByText := true, laidKinds := [.data, .data, .data], laidTests := true, laidLooks := .later }
def FnExactFormatSystemCardSaid : Prop := Claim7.holds Tryd.pinned (.plain (OpenSpec.ofChange fnExactFormatSystemSpec)) fnExactFormatSystemCard

/-- THE SECOND FORM's CARD OF 'laws.FnExactFormatSystem'. -/
def fnExactFormatSystemUptoCard : Claim7 := { stood := { row := fnExactFormatSystemUptoRow, standIns := [], harness := (true, "ecbee7073966a11b669beef456cd1f9ca89c10dd162cd6d84d77f3cc38e01aa5"), looks := false }, kinds := [], alts := [], laidByText := true, laidKinds := [.data, .data, .data], laidTests := true, laidLooks := .later }
def FnExactFormatSystemUptoCardSaid : Prop := Claim7.holds Tryd.pinned (.plain (OpenSpec.upto fnExactFormatSystemSpec)) fnExactFormatSystemUptoCard
end Rows
end Go.Proofs.YtnjakhojdhkihaaDoor
