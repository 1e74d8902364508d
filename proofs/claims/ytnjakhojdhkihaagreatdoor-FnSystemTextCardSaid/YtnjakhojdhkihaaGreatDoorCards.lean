/-
  DERIVED. GIVEN WITH THE SEED: THE CARDS: each row of YtnjakhojdhkihaaGreatDoorRows.lean that lists a variable, with what it lists TIED to the program's text (the seventh form; the later family's looks); each row that meets fmt, with fmt's text TOLD by the authors' own Lean function (tested against real Go, not proved from fmt's source: count such statements apart). THE CARD IS WHAT COUNTS. Prove the row's statement (the work); the ties are given (YtnjakhojdhkihaaGreatDoorTie.lean); close each card by the builder's one call (the guide's Derived/Test/ToyasCard.lean, 'card_holds'). Laid BY PROGRAM, IN A SANDBOX (cutbox-door.mjs). By AI agents, Wed Nov 11 2026. No macro, syntax, notation, axiom, sorry.
-/
import Derived.Test.YtnjakhojdhkihaaGreatDoorRows
import GoSem.ClaimSeven
namespace Go.Proofs.YtnjakhojdhkihaaGreatDoor
namespace Rows

/-- THE TIED CARD OF 'laws.FnExactParseSystem'. -/
def fnExactParseSystemCard : Claim7 := { stood := { row := fnExactParseSystemRow, standIns := [], harness := (true, "a66f1411fb1964aceb3e58463c6217f6fd25f912a4afc39706e96065ee4cf873"), looks := true }, kinds := [], alts := [], laidByText := true, laidKinds := [.data, .data, .data, .data, .sentinel, .sentinel, .pinned], laidTests := true, laidLooks := .later }
def FnExactParseSystemCardSaid : Prop := Claim7.holds Tryz.pinned (.plain (OpenSpec.ofChange fnExactParseSystemSpec)) fnExactParseSystemCard

/-- THE TIED CARD OF 'laws.FnSystemText'. -/
def fnSystemTextCard : Claim7 := { stood := { row := fnSystemTextRow, standIns := [], harness := (true, "a66f1411fb1964aceb3e58463c6217f6fd25f912a4afc39706e96065ee4cf873"), looks := true }, kinds := [], alts := [], laidByText := true, laidKinds := [.data, .data, .data, .data, .sentinel, .sentinel, .pinned], laidTests := true, laidLooks := .later }
def FnSystemTextCardSaid : Prop := Claim7.holds Tryz.pinned (.plain (OpenSpec.ofChange fnSystemTextSpec)) fnSystemTextCard

/-- THE SECOND FORM's CARD OF 'laws.FnExactParseSystem'. -/
def fnExactParseSystemUptoCard : Claim7 := { stood := { row := fnExactParseSystemUptoRow, standIns := [], harness := (true, "a66f1411fb1964aceb3e58463c6217f6fd25f912a4afc39706e96065ee4cf873"), looks := true }, kinds := [], alts := [], laidByText := true, laidKinds := [.data, .data, .data, .data, .sentinel, .sentinel, .pinned], laidTests := true, laidLooks := .later }
def FnExactParseSystemUptoCardSaid : Prop := Claim7.holds Tryz.pinned (.plain (OpenSpec.upto fnExactParseSystemSpec)) fnExactParseSystemUptoCard

/-- THE SECOND FORM's CARD OF 'laws.FnSystemText'. -/
def fnSystemTextUptoCard : Claim7 := { stood := { row := fnSystemTextUptoRow, standIns := [], harness := (true, "a66f1411fb1964aceb3e58463c6217f6fd25f912a4afc39706e96065ee4cf873"), looks := true }, kinds := [], alts := [], laidByText := true, laidKinds := [.data, .data, .data, .data, .sentinel, .sentinel, .pinned], laidTests := true, laidLooks := .later }
def FnSystemTextUptoCardSaid : Prop := Claim7.holds Tryz.pinned (.plain (OpenSpec.upto fnSystemTextSpec)) fnSystemTextUptoCard
end Rows
end Go.Proofs.YtnjakhojdhkihaaGreatDoor
