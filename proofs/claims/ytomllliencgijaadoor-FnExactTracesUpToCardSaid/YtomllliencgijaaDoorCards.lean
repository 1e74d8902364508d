/-
  DERIVED. GIVEN WITH THE SEED: THE CARDS: each row of YtomllliencgijaaDoorRows.lean that lists a variable, with what it lists TIED to the program's text (the seventh form; the later family's looks); each row that meets fmt, with fmt's text TOLD by the authors' own Lean function (tested against real Go, not proved from fmt's source: count such statements apart). THE CARD IS WHAT COUNTS. Prove the row's statement (the work); the ties are given (YtomllliencgijaaDoorTie.lean); close each card by the builder's one call (the guide's Derived/Test/ToyasCard.lean, 'card_holds'). Laid BY PROGRAM, IN A SANDBOX (cutbox-door.mjs). By AI agents, Wed Nov 11 2026. No macro, syntax, notation, axiom, sorry.
-/
import Derived.Test.YtomllliencgijaaDoorRows
import GoSem.ClaimSeven
namespace Go.Proofs.YtomllliencgijaaDoor
namespace Rows

/-- THE TIED CARD OF 'laws.FnExactReachableStates'. -/
def fnExactReachableStatesCard : Claim7 := { stood := { row := fnExactReachableStatesRow, standIns := [], harness := (true, "f979a43356f2f52712e528757a723923afacf46867e356b30fac6ff4d464a077"), looks := false }, kinds := [], alts := [], laidByText := true, laidKinds := [.data, .data], laidTests := true, laidLooks := .later }
def FnExactReachableStatesCardSaid : Prop := Claim7.holds Tryd.pinned (.plain (OpenSpec.ofChange fnExactReachableStatesSpec)) fnExactReachableStatesCard

/-- THE TIED CARD OF 'laws.FnExactTracesUpTo'. -/
def fnExactTracesUpToCard : Claim7 := { stood := { row := fnExactTracesUpToRow, standIns := [], harness := (true, "f979a43356f2f52712e528757a723923afacf46867e356b30fac6ff4d464a077"), looks := false }, kinds := [], alts := [], laidByText := true, laidKinds := [.data, .data], laidTests := true, laidLooks := .later }
def FnExactTracesUpToCardSaid : Prop := Claim7.holds Tryd.pinned (.plain (OpenSpec.ofChange fnExactTracesUpToSpec)) fnExactTracesUpToCard

/-- THE TIED CARD OF 'laws.FnExactStatesAfter'. -/
def fnExactStatesAfterCard : Claim7 := { stood := { row := fnExactStatesAfterRow, standIns := [], harness := (true, "f979a43356f2f52712e528757a723923afacf46867e356b30fac6ff4d464a077"), looks := false }, kinds := [], alts := [], laidByText := true, laidKinds := [.data, .data], laidTests := true, laidLooks := .later }
def FnExactStatesAfterCardSaid : Prop := Claim7.holds Tryd.pinned (.plain (OpenSpec.ofChange fnExactStatesAfterSpec)) fnExactStatesAfterCard

/-- THE TIED CARD OF 'laws.FnExactHasTrace'. -/
def fnExactHasTraceCard : Claim7 := { stood := { row := fnExactHasTraceRow, standIns := [], harness := (true, "f979a43356f2f52712e528757a723923afacf46867e356b30fac6ff4d464a077"), looks := false }, kinds := [], alts := [], laidByText := true, laidKinds := [.data, .data], laidTests := true, laidLooks := .later }
def FnExactHasTraceCardSaid : Prop := Claim7.holds Tryd.pinned (.plain (OpenSpec.ofChange fnExactHasTraceSpec)) fnExactHasTraceCard

/-- THE TIED CARD OF 'laws.FnExactLettersAfter'. -/
def fnExactLettersAfterCard : Claim7 := { stood := { row := fnExactLettersAfterRow, standIns := [], harness := (true, "f979a43356f2f52712e528757a723923afacf46867e356b30fac6ff4d464a077"), looks := false }, kinds := [], alts := [], laidByText := true, laidKinds := [.data, .data], laidTests := true, laidLooks := .later }
def FnExactLettersAfterCardSaid : Prop := Claim7.holds Tryd.pinned (.plain (OpenSpec.ofChange fnExactLettersAfterSpec)) fnExactLettersAfterCard

/-- THE TIED CARD OF 'laws.FnExactTrimSystem'. -/
def fnExactTrimSystemCard : Claim7 := { stood := { row := fnExactTrimSystemRow, standIns := [], harness := (true, "f979a43356f2f52712e528757a723923afacf46867e356b30fac6ff4d464a077"), looks := false }, kinds := [], alts := [], laidByText := true, laidKinds := [.data, .data], laidTests := true, laidLooks := .later }
def FnExactTrimSystemCardSaid : Prop := Claim7.holds Tryd.pinned (.plain (OpenSpec.ofChange fnExactTrimSystemSpec)) fnExactTrimSystemCard

/-- THE TIED CARD OF 'laws.FnExactRunOf'. -/
def fnExactRunOfCard : Claim7 := { stood := { row := fnExactRunOfRow, standIns := [], harness := (true, "f979a43356f2f52712e528757a723923afacf46867e356b30fac6ff4d464a077"), looks := false }, kinds := [], alts := [], laidByText := true, laidKinds := [.data, .data], laidTests := true, laidLooks := .later }
def FnExactRunOfCardSaid : Prop := Claim7.holds Tryd.pinned (.plain (OpenSpec.ofChange fnExactRunOfSpec)) fnExactRunOfCard

/-- THE SECOND FORM's CARD OF 'laws.FnExactReachableStates'. -/
def fnExactReachableStatesUptoCard : Claim7 := { stood := { row := fnExactReachableStatesUptoRow, standIns := [], harness := (true, "f979a43356f2f52712e528757a723923afacf46867e356b30fac6ff4d464a077"), looks := false }, kinds := [], alts := [], laidByText := true, laidKinds := [.data, .data], laidTests := true, laidLooks := .later }
def FnExactReachableStatesUptoCardSaid : Prop := Claim7.holds Tryd.pinned (.plain (OpenSpec.upto fnExactReachableStatesSpec)) fnExactReachableStatesUptoCard

/-- THE SECOND FORM's CARD OF 'laws.FnExactTracesUpTo'. -/
def fnExactTracesUpToUptoCard : Claim7 := { stood := { row := fnExactTracesUpToUptoRow, standIns := [], harness := (true, "f979a43356f2f52712e528757a723923afacf46867e356b30fac6ff4d464a077"), looks := false }, kinds := [], alts := [], laidByText := true, laidKinds := [.data, .data], laidTests := true, laidLooks := .later }
def FnExactTracesUpToUptoCardSaid : Prop := Claim7.holds Tryd.pinned (.plain (OpenSpec.upto fnExactTracesUpToSpec)) fnExactTracesUpToUptoCard

/-- THE SECOND FORM's CARD OF 'laws.FnExactStatesAfter'. -/
def fnExactStatesAfterUptoCard : Claim7 := { stood := { row := fnExactStatesAfterUptoRow, standIns := [], harness := (true, "f979a43356f2f52712e528757a723923afacf46867e356b30fac6ff4d464a077"), looks := false }, kinds := [], alts := [], laidByText := true, laidKinds := [.data, .data], laidTests := true, laidLooks := .later }
def FnExactStatesAfterUptoCardSaid : Prop := Claim7.holds Tryd.pinned (.plain (OpenSpec.upto fnExactStatesAfterSpec)) fnExactStatesAfterUptoCard

/-- THE SECOND FORM's CARD OF 'laws.FnExactHasTrace'. -/
def fnExactHasTraceUptoCard : Claim7 := { stood := { row := fnExactHasTraceUptoRow, standIns := [], harness := (true, "f979a43356f2f52712e528757a723923afacf46867e356b30fac6ff4d464a077"), looks := false }, kinds := [], alts := [], laidByText := true, laidKinds := [.data, .data], laidTests := true, laidLooks := .later }
def FnExactHasTraceUptoCardSaid : Prop := Claim7.holds Tryd.pinned (.plain (OpenSpec.upto fnExactHasTraceSpec)) fnExactHasTraceUptoCard

/-- THE SECOND FORM's CARD OF 'laws.FnExactLettersAfter'. -/
def fnExactLettersAfterUptoCard : Claim7 := { stood := { row := fnExactLettersAfterUptoRow, standIns := [], harness := (true, "f979a43356f2f52712e528757a723923afacf46867e356b30fac6ff4d464a077"), looks := false }, kinds := [], alts := [], laidByText := true, laidKinds := [.data, .data], laidTests := true, laidLooks := .later }
def FnExactLettersAfterUptoCardSaid : Prop := Claim7.holds Tryd.pinned (.plain (OpenSpec.upto fnExactLettersAfterSpec)) fnExactLettersAfterUptoCard

/-- THE SECOND FORM's CARD OF 'laws.FnExactTrimSystem'. -/
def fnExactTrimSystemUptoCard : Claim7 := { stood := { row := fnExactTrimSystemUptoRow, standIns := [], harness := (true, "f979a43356f2f52712e528757a723923afacf46867e356b30fac6ff4d464a077"), looks := false }, kinds := [], alts := [], laidByText := true, laidKinds := [.data, .data], laidTests := true, laidLooks := .later }
def FnExactTrimSystemUptoCardSaid : Prop := Claim7.holds Tryd.pinned (.plain (OpenSpec.upto fnExactTrimSystemSpec)) fnExactTrimSystemUptoCard

/-- THE SECOND FORM's CARD OF 'laws.FnExactRunOf'. -/
def fnExactRunOfUptoCard : Claim7 := { stood := { row := fnExactRunOfUptoRow, standIns := [], harness := (true, "f979a43356f2f52712e528757a723923afacf46867e356b30fac6ff4d464a077"), looks := false }, kinds := [], alts := [], laidByText := true, laidKinds := [.data, .data], laidTests := true, laidLooks := .later }
def FnExactRunOfUptoCardSaid : Prop := Claim7.holds Tryd.pinned (.plain (OpenSpec.upto fnExactRunOfSpec)) fnExactRunOfUptoCard
end Rows
end Go.Proofs.YtomllliencgijaaDoor
