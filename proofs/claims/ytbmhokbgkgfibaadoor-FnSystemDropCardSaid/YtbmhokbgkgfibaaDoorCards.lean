/-
  DERIVED. GIVEN WITH THE SEED: THE CARDS: each row of YtbmhokbgkgfibaaDoorRows.lean that lists a variable, with what it lists TIED to the program's text (the seventh form; the later family's looks); each row that meets fmt, with fmt's text TOLD by the authors' own Lean function (tested against real Go, not proved from fmt's source: count such statements apart). THE CARD IS WHAT COUNTS. Prove the row's statement (the work); the ties are given (YtbmhokbgkgfibaaDoorTie.lean); close each card by the builder's one call (the guide's Derived/Test/ToyasCard.lean, 'card_holds'). Laid BY PROGRAM, IN A SANDBOX (cutbox-door.mjs). By AI agents, Wed Nov 11 2026. No macro, syntax, notation, axiom, sorry.
-/
import Derived.Test.YtbmhokbgkgfibaaDoorRows
import GoSem.ClaimSeven
namespace Go.Proofs.YtbmhokbgkgfibaaDoor
namespace Rows

/-- THE TIED CARD OF 'laws.FnReachTrace'. -/
def fnReachTraceCard : Claim7 := { stood := { row := fnReachTraceRow, standIns := [], harness := (true, "bf3f61177fb5f6249631f7021f98541392c1c0b7e1825cc45cdac54abeb47557"), looks := false }, kinds := [], alts := [], laidByText := true, laidKinds := [.data, .data], laidTests := true, laidLooks := .later }
def FnReachTraceCardSaid : Prop := Claim7.holds Tryd.pinned (.plain (OpenSpec.ofChange fnReachTraceSpec)) fnReachTraceCard

/-- THE TIED CARD OF 'laws.FnSystemWide'. -/
def fnSystemWideCard : Claim7 := { stood := { row := fnSystemWideRow, standIns := [], harness := (true, "bf3f61177fb5f6249631f7021f98541392c1c0b7e1825cc45cdac54abeb47557"), looks := false }, kinds := [], alts := [], laidByText := true, laidKinds := [.data, .data], laidTests := true, laidLooks := .later }
def FnSystemWideCardSaid : Prop := Claim7.holds Tryd.pinned (.plain (OpenSpec.ofChange fnSystemWideSpec)) fnSystemWideCard

/-- THE TIED CARD OF 'laws.FnHasTrace'. -/
def fnHasTraceCard : Claim7 := { stood := { row := fnHasTraceRow, standIns := [], harness := (true, "bf3f61177fb5f6249631f7021f98541392c1c0b7e1825cc45cdac54abeb47557"), looks := false }, kinds := [], alts := [], laidByText := true, laidKinds := [.data, .data], laidTests := true, laidLooks := .later }
def FnHasTraceCardSaid : Prop := Claim7.holds Tryd.pinned (.plain (OpenSpec.ofChange fnHasTraceSpec)) fnHasTraceCard

/-- THE TIED CARD OF 'laws.FnSystemDrop'. -/
def fnSystemDropCard : Claim7 := { stood := { row := fnSystemDropRow, standIns := [], harness := (true, "bf3f61177fb5f6249631f7021f98541392c1c0b7e1825cc45cdac54abeb47557"), looks := false }, kinds := [], alts := [], laidByText := true, laidKinds := [.data, .data], laidTests := true, laidLooks := .later }
def FnSystemDropCardSaid : Prop := Claim7.holds Tryd.pinned (.plain (OpenSpec.ofChange fnSystemDropSpec)) fnSystemDropCard

/-- THE TIED CARD OF 'laws.FnStatesAfter'. -/
def fnStatesAfterCard : Claim7 := { stood := { row := fnStatesAfterRow, standIns := [], harness := (true, "bf3f61177fb5f6249631f7021f98541392c1c0b7e1825cc45cdac54abeb47557"), looks := false }, kinds := [], alts := [], laidByText := true, laidKinds := [.data, .data], laidTests := true, laidLooks := .later }
def FnStatesAfterCardSaid : Prop := Claim7.holds Tryd.pinned (.plain (OpenSpec.ofChange fnStatesAfterSpec)) fnStatesAfterCard

/-- THE TIED CARD OF 'laws.FnLettersAfter'. -/
def fnLettersAfterCard : Claim7 := { stood := { row := fnLettersAfterRow, standIns := [], harness := (true, "bf3f61177fb5f6249631f7021f98541392c1c0b7e1825cc45cdac54abeb47557"), looks := false }, kinds := [], alts := [], laidByText := true, laidKinds := [.data, .data], laidTests := true, laidLooks := .later }
def FnLettersAfterCardSaid : Prop := Claim7.holds Tryd.pinned (.plain (OpenSpec.ofChange fnLettersAfterSpec)) fnLettersAfterCard

/-- THE TIED CARD OF 'laws.FnReachable'. -/
def fnReachableCard : Claim7 := { stood := { row := fnReachableRow, standIns := [], harness := (true, "bf3f61177fb5f6249631f7021f98541392c1c0b7e1825cc45cdac54abeb47557"), looks := false }, kinds := [], alts := [], laidByText := true, laidKinds := [.data, .data], laidTests := true, laidLooks := .later }
def FnReachableCardSaid : Prop := Claim7.holds Tryd.pinned (.plain (OpenSpec.ofChange fnReachableSpec)) fnReachableCard

/-- THE SECOND FORM's CARD OF 'laws.FnReachTrace'. -/
def fnReachTraceUptoCard : Claim7 := { stood := { row := fnReachTraceUptoRow, standIns := [], harness := (true, "bf3f61177fb5f6249631f7021f98541392c1c0b7e1825cc45cdac54abeb47557"), looks := false }, kinds := [], alts := [], laidByText := true, laidKinds := [.data, .data], laidTests := true, laidLooks := .later }
def FnReachTraceUptoCardSaid : Prop := Claim7.holds Tryd.pinned (.plain (OpenSpec.upto fnReachTraceSpec)) fnReachTraceUptoCard

/-- THE SECOND FORM's CARD OF 'laws.FnSystemWide'. -/
def fnSystemWideUptoCard : Claim7 := { stood := { row := fnSystemWideUptoRow, standIns := [], harness := (true, "bf3f61177fb5f6249631f7021f98541392c1c0b7e1825cc45cdac54abeb47557"), looks := false }, kinds := [], alts := [], laidByText := true, laidKinds := [.data, .data], laidTests := true, laidLooks := .later }
def FnSystemWideUptoCardSaid : Prop := Claim7.holds Tryd.pinned (.plain (OpenSpec.upto fnSystemWideSpec)) fnSystemWideUptoCard

/-- THE SECOND FORM's CARD OF 'laws.FnHasTrace'. -/
def fnHasTraceUptoCard : Claim7 := { stood := { row := fnHasTraceUptoRow, standIns := [], harness := (true, "bf3f61177fb5f6249631f7021f98541392c1c0b7e1825cc45cdac54abeb47557"), looks := false }, kinds := [], alts := [], laidByText := true, laidKinds := [.data, .data], laidTests := true, laidLooks := .later }
def FnHasTraceUptoCardSaid : Prop := Claim7.holds Tryd.pinned (.plain (OpenSpec.upto fnHasTraceSpec)) fnHasTraceUptoCard

/-- THE SECOND FORM's CARD OF 'laws.FnSystemDrop'. -/
def fnSystemDropUptoCard : Claim7 := { stood := { row := fnSystemDropUptoRow, standIns := [], harness := (true, "bf3f61177fb5f6249631f7021f98541392c1c0b7e1825cc45cdac54abeb47557"), looks := false }, kinds := [], alts := [], laidByText := true, laidKinds := [.data, .data], laidTests := true, laidLooks := .later }
def FnSystemDropUptoCardSaid : Prop := Claim7.holds Tryd.pinned (.plain (OpenSpec.upto fnSystemDropSpec)) fnSystemDropUptoCard

/-- THE SECOND FORM's CARD OF 'laws.FnStatesAfter'. -/
def fnStatesAfterUptoCard : Claim7 := { stood := { row := fnStatesAfterUptoRow, standIns := [], harness := (true, "bf3f61177fb5f6249631f7021f98541392c1c0b7e1825cc45cdac54abeb47557"), looks := false }, kinds := [], alts := [], laidByText := true, laidKinds := [.data, .data], laidTests := true, laidLooks := .later }
def FnStatesAfterUptoCardSaid : Prop := Claim7.holds Tryd.pinned (.plain (OpenSpec.upto fnStatesAfterSpec)) fnStatesAfterUptoCard

/-- THE SECOND FORM's CARD OF 'laws.FnLettersAfter'. -/
def fnLettersAfterUptoCard : Claim7 := { stood := { row := fnLettersAfterUptoRow, standIns := [], harness := (true, "bf3f61177fb5f6249631f7021f98541392c1c0b7e1825cc45cdac54abeb47557"), looks := false }, kinds := [], alts := [], laidByText := true, laidKinds := [.data, .data], laidTests := true, laidLooks := .later }
def FnLettersAfterUptoCardSaid : Prop := Claim7.holds Tryd.pinned (.plain (OpenSpec.upto fnLettersAfterSpec)) fnLettersAfterUptoCard

/-- THE SECOND FORM's CARD OF 'laws.FnReachable'. -/
def fnReachableUptoCard : Claim7 := { stood := { row := fnReachableUptoRow, standIns := [], harness := (true, "bf3f61177fb5f6249631f7021f98541392c1c0b7e1825cc45cdac54abeb47557"), looks := false }, kinds := [], alts := [], laidByText := true, laidKinds := [.data, .data], laidTests := true, laidLooks := .later }
def FnReachableUptoCardSaid : Prop := Claim7.holds Tryd.pinned (.plain (OpenSpec.upto fnReachableSpec)) fnReachableUptoCard
end Rows
end Go.Proofs.YtbmhokbgkgfibaaDoor
