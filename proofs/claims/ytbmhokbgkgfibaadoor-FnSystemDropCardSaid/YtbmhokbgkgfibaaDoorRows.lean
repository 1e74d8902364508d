/-
  NARROWER THAN 'FOR EVERY INPUT', by the rows' own cells (each row's printed sentence says how): FnReachTrace: laid · FnSystemWide: laid · FnHasTrace: laid · FnSystemDrop: laid · FnStatesAfter: laid · FnLettersAfter: laid · FnReachable: laid.
  DERIVED. THE GIVEN ROWS OF THIS SEAT. 7 by the template 'for every input the law returns true; each argument reads behind the call as it read before'; 0 by the template 'total and deterministic' (their statements: YtbmhokbgkgfibaaDoorTotals.lean).
  GIVEN WITH THE SEED: the statements are not yours to turn. If you find one false, say at which input.
  Laid BY PROGRAM, IN A SANDBOX (cutbox-rows.mjs): the forced cells as the released guide's own fill.sh prints them over the translation dc5e86cb70ddbea6… (all of the seat's roots in one cut). By AI agents, Wed Nov 11 2026. No macro, syntax, notation, axiom, sorry.
-/
import Derived.Test.YtbmhokbgkgfibaaDoorChecked
import GoSem.Claim
import GoSem.ClaimJoined
import GoSem.ClaimMapViews
import Derived.JoinedTies
import Derived.KernelRfl
namespace Go.Proofs.YtbmhokbgkgfibaaDoor
/- THE CELL 'sum', in the pinned program and in every row, IS THE sha256 OF THE DUMP (.gsa) THAT YtbmhokbgkgfibaaDoorProg.lean LOADS. Nothing in Lean hashes anything: it is a label: what it is worth is what the hold of that sum in a sandbox is worth. -/
noncomputable def Tryd.pinned : Pinned := { name := "ytbmhokbgkgfibaadoor", sum := "dc5e86cb70ddbea69030108cfb936f0b4efa6732f0755497f288aa32a57526a7", checked := Tryd.checked }
namespace Rows
def none {H : Type} : Left H := { results := [], args := [] }

/- WHAT THE LISTED PACKAGE-LEVEL VARIABLES READ AS WHEN THE CALL BEGINS. Each datum BY PROGRAM (the guide's laid-datum.mjs) off the statement by which the dump's own 'gosem.cut.vars' lays the variable. In a bare row this is a premise. The card (YtbmhokbgkgfibaaDoorCards.lean) ties it to the program's text. -/
def laid_math_bits_deBruijn32tab {H : Type} : DataW H := .agg [.lit (.int .u8 0), .lit (.int .u8 1), .lit (.int .u8 28), .lit (.int .u8 2), .lit (.int .u8 29), .lit (.int .u8 14), .lit (.int .u8 24), .lit (.int .u8 3), .lit (.int .u8 30), .lit (.int .u8 22), .lit (.int .u8 20), .lit (.int .u8 15), .lit (.int .u8 25), .lit (.int .u8 17), .lit (.int .u8 4), .lit (.int .u8 8), .lit (.int .u8 31), .lit (.int .u8 27), .lit (.int .u8 13), .lit (.int .u8 23), .lit (.int .u8 21), .lit (.int .u8 19), .lit (.int .u8 16), .lit (.int .u8 7), .lit (.int .u8 26), .lit (.int .u8 12), .lit (.int .u8 18), .lit (.int .u8 6), .lit (.int .u8 11), .lit (.int .u8 5), .lit (.int .u8 10), .lit (.int .u8 9)]
def laid_math_bits_deBruijn64tab {H : Type} : DataW H := .agg [.lit (.int .u8 0), .lit (.int .u8 1), .lit (.int .u8 56), .lit (.int .u8 2), .lit (.int .u8 57), .lit (.int .u8 49), .lit (.int .u8 28), .lit (.int .u8 3), .lit (.int .u8 61), .lit (.int .u8 58), .lit (.int .u8 42), .lit (.int .u8 50), .lit (.int .u8 38), .lit (.int .u8 29), .lit (.int .u8 17), .lit (.int .u8 4), .lit (.int .u8 62), .lit (.int .u8 47), .lit (.int .u8 59), .lit (.int .u8 36), .lit (.int .u8 45), .lit (.int .u8 43), .lit (.int .u8 51), .lit (.int .u8 22), .lit (.int .u8 53), .lit (.int .u8 39), .lit (.int .u8 33), .lit (.int .u8 30), .lit (.int .u8 24), .lit (.int .u8 18), .lit (.int .u8 12), .lit (.int .u8 5), .lit (.int .u8 63), .lit (.int .u8 55), .lit (.int .u8 48), .lit (.int .u8 27), .lit (.int .u8 60), .lit (.int .u8 41), .lit (.int .u8 37), .lit (.int .u8 16), .lit (.int .u8 46), .lit (.int .u8 35), .lit (.int .u8 44), .lit (.int .u8 21), .lit (.int .u8 52), .lit (.int .u8 32), .lit (.int .u8 23), .lit (.int .u8 11), .lit (.int .u8 54), .lit (.int .u8 26), .lit (.int .u8 40), .lit (.int .u8 15), .lit (.int .u8 34), .lit (.int .u8 20), .lit (.int .u8 31), .lit (.int .u8 10), .lit (.int .u8 25), .lit (.int .u8 14), .lit (.int .u8 19), .lit (.int .u8 9), .lit (.int .u8 13), .lit (.int .u8 8), .lit (.int .u8 7), .lit (.int .u8 6)]

/-- 'laws.FnReachTrace': WHATEVER THE INPUT: true; the input reads as it did. -/
def fnReachTraceSpec : ChangeSpec := { name := "fnReachTrace", fn := fun _ => fun
  | [d] => { results := [.lit (.bool true)], args := [d] }
  | _ => none }
def fnReachTraceRow : OpenClaim := { program := "ytbmhokbgkgfibaadoor", sum := "dc5e86cb70ddbea69030108cfb936f0b4efa6732f0755497f288aa32a57526a7", func := "loop.example/assumeguarantee/laws.FnReachTrace", spec := "fnReachTrace", recurses := true, named := ["math/bits.deBruijn32tab", "math/bits.deBruijn64tab"], apart := false, laid := [("math/bits.deBruijn32tab", laid_math_bits_deBruijn32tab), ("math/bits.deBruijn64tab", laid_math_bits_deBruijn64tab)] }
def FnReachTraceSaid : Prop := fnReachTraceRow.holds Tryd.pinned (OpenSpec.ofChange fnReachTraceSpec)

/-- ITS FALSE NEIGHBOUR: 'it returns false'. Refute it at one input. -/
def fnReachTraceWrong : ChangeSpec := { name := "fnReachTrace", fn := fun _ => fun
  | [d] => { results := [.lit (.bool false)], args := [d] }
  | _ => none }
def FnReachTraceWrongFalsely : Prop := fnReachTraceRow.holds Tryd.pinned (OpenSpec.ofChange fnReachTraceWrong)

/-- 'laws.FnSystemWide': WHATEVER THE INPUT: true; the input reads as it did. -/
def fnSystemWideSpec : ChangeSpec := { name := "fnSystemWide", fn := fun _ => fun
  | [d] => { results := [.lit (.bool true)], args := [d] }
  | _ => none }
def fnSystemWideRow : OpenClaim := { program := "ytbmhokbgkgfibaadoor", sum := "dc5e86cb70ddbea69030108cfb936f0b4efa6732f0755497f288aa32a57526a7", func := "loop.example/assumeguarantee/laws.FnSystemWide", spec := "fnSystemWide", recurses := true, named := ["math/bits.deBruijn32tab", "math/bits.deBruijn64tab"], apart := false, laid := [("math/bits.deBruijn32tab", laid_math_bits_deBruijn32tab), ("math/bits.deBruijn64tab", laid_math_bits_deBruijn64tab)] }
def FnSystemWideSaid : Prop := fnSystemWideRow.holds Tryd.pinned (OpenSpec.ofChange fnSystemWideSpec)

/-- ITS FALSE NEIGHBOUR: 'it returns false'. Refute it at one input. -/
def fnSystemWideWrong : ChangeSpec := { name := "fnSystemWide", fn := fun _ => fun
  | [d] => { results := [.lit (.bool false)], args := [d] }
  | _ => none }
def FnSystemWideWrongFalsely : Prop := fnSystemWideRow.holds Tryd.pinned (OpenSpec.ofChange fnSystemWideWrong)

/-- 'laws.FnHasTrace': WHATEVER THE INPUT: true; the input reads as it did. -/
def fnHasTraceSpec : ChangeSpec := { name := "fnHasTrace", fn := fun _ => fun
  | [d] => { results := [.lit (.bool true)], args := [d] }
  | _ => none }
def fnHasTraceRow : OpenClaim := { program := "ytbmhokbgkgfibaadoor", sum := "dc5e86cb70ddbea69030108cfb936f0b4efa6732f0755497f288aa32a57526a7", func := "loop.example/assumeguarantee/laws.FnHasTrace", spec := "fnHasTrace", recurses := true, named := ["math/bits.deBruijn32tab", "math/bits.deBruijn64tab"], apart := false, laid := [("math/bits.deBruijn32tab", laid_math_bits_deBruijn32tab), ("math/bits.deBruijn64tab", laid_math_bits_deBruijn64tab)] }
def FnHasTraceSaid : Prop := fnHasTraceRow.holds Tryd.pinned (OpenSpec.ofChange fnHasTraceSpec)

/-- ITS FALSE NEIGHBOUR: 'it returns false'. Refute it at one input. -/
def fnHasTraceWrong : ChangeSpec := { name := "fnHasTrace", fn := fun _ => fun
  | [d] => { results := [.lit (.bool false)], args := [d] }
  | _ => none }
def FnHasTraceWrongFalsely : Prop := fnHasTraceRow.holds Tryd.pinned (OpenSpec.ofChange fnHasTraceWrong)

/-- 'laws.FnSystemDrop': WHATEVER THE INPUT: true; the input reads as it did. -/
def fnSystemDropSpec : ChangeSpec := { name := "fnSystemDrop", fn := fun _ => fun
  | [d] => { results := [.lit (.bool true)], args := [d] }
  | _ => none }
def fnSystemDropRow : OpenClaim := { program := "ytbmhokbgkgfibaadoor", sum := "dc5e86cb70ddbea69030108cfb936f0b4efa6732f0755497f288aa32a57526a7", func := "loop.example/assumeguarantee/laws.FnSystemDrop", spec := "fnSystemDrop", recurses := true, named := ["math/bits.deBruijn32tab", "math/bits.deBruijn64tab"], apart := false, laid := [("math/bits.deBruijn32tab", laid_math_bits_deBruijn32tab), ("math/bits.deBruijn64tab", laid_math_bits_deBruijn64tab)] }
def FnSystemDropSaid : Prop := fnSystemDropRow.holds Tryd.pinned (OpenSpec.ofChange fnSystemDropSpec)

/-- ITS FALSE NEIGHBOUR: 'it returns false'. Refute it at one input. -/
def fnSystemDropWrong : ChangeSpec := { name := "fnSystemDrop", fn := fun _ => fun
  | [d] => { results := [.lit (.bool false)], args := [d] }
  | _ => none }
def FnSystemDropWrongFalsely : Prop := fnSystemDropRow.holds Tryd.pinned (OpenSpec.ofChange fnSystemDropWrong)

/-- 'laws.FnStatesAfter': WHATEVER THE INPUT: true; the input reads as it did. -/
def fnStatesAfterSpec : ChangeSpec := { name := "fnStatesAfter", fn := fun _ => fun
  | [d] => { results := [.lit (.bool true)], args := [d] }
  | _ => none }
def fnStatesAfterRow : OpenClaim := { program := "ytbmhokbgkgfibaadoor", sum := "dc5e86cb70ddbea69030108cfb936f0b4efa6732f0755497f288aa32a57526a7", func := "loop.example/assumeguarantee/laws.FnStatesAfter", spec := "fnStatesAfter", recurses := true, named := ["math/bits.deBruijn32tab", "math/bits.deBruijn64tab"], apart := false, laid := [("math/bits.deBruijn32tab", laid_math_bits_deBruijn32tab), ("math/bits.deBruijn64tab", laid_math_bits_deBruijn64tab)] }
def FnStatesAfterSaid : Prop := fnStatesAfterRow.holds Tryd.pinned (OpenSpec.ofChange fnStatesAfterSpec)

/-- ITS FALSE NEIGHBOUR: 'it returns false'. Refute it at one input. -/
def fnStatesAfterWrong : ChangeSpec := { name := "fnStatesAfter", fn := fun _ => fun
  | [d] => { results := [.lit (.bool false)], args := [d] }
  | _ => none }
def FnStatesAfterWrongFalsely : Prop := fnStatesAfterRow.holds Tryd.pinned (OpenSpec.ofChange fnStatesAfterWrong)

/-- 'laws.FnLettersAfter': WHATEVER THE INPUT: true; the input reads as it did. -/
def fnLettersAfterSpec : ChangeSpec := { name := "fnLettersAfter", fn := fun _ => fun
  | [d] => { results := [.lit (.bool true)], args := [d] }
  | _ => none }
def fnLettersAfterRow : OpenClaim := { program := "ytbmhokbgkgfibaadoor", sum := "dc5e86cb70ddbea69030108cfb936f0b4efa6732f0755497f288aa32a57526a7", func := "loop.example/assumeguarantee/laws.FnLettersAfter", spec := "fnLettersAfter", recurses := true, named := ["math/bits.deBruijn32tab", "math/bits.deBruijn64tab"], apart := false, laid := [("math/bits.deBruijn32tab", laid_math_bits_deBruijn32tab), ("math/bits.deBruijn64tab", laid_math_bits_deBruijn64tab)] }
def FnLettersAfterSaid : Prop := fnLettersAfterRow.holds Tryd.pinned (OpenSpec.ofChange fnLettersAfterSpec)

/-- ITS FALSE NEIGHBOUR: 'it returns false'. Refute it at one input. -/
def fnLettersAfterWrong : ChangeSpec := { name := "fnLettersAfter", fn := fun _ => fun
  | [d] => { results := [.lit (.bool false)], args := [d] }
  | _ => none }
def FnLettersAfterWrongFalsely : Prop := fnLettersAfterRow.holds Tryd.pinned (OpenSpec.ofChange fnLettersAfterWrong)

/-- 'laws.FnReachable': WHATEVER THE INPUT: true; the input reads as it did. -/
def fnReachableSpec : ChangeSpec := { name := "fnReachable", fn := fun _ => fun
  | [d] => { results := [.lit (.bool true)], args := [d] }
  | _ => none }
def fnReachableRow : OpenClaim := { program := "ytbmhokbgkgfibaadoor", sum := "dc5e86cb70ddbea69030108cfb936f0b4efa6732f0755497f288aa32a57526a7", func := "loop.example/assumeguarantee/laws.FnReachable", spec := "fnReachable", recurses := true, named := ["math/bits.deBruijn32tab", "math/bits.deBruijn64tab"], apart := false, laid := [("math/bits.deBruijn32tab", laid_math_bits_deBruijn32tab), ("math/bits.deBruijn64tab", laid_math_bits_deBruijn64tab)] }
def FnReachableSaid : Prop := fnReachableRow.holds Tryd.pinned (OpenSpec.ofChange fnReachableSpec)

/-- ITS FALSE NEIGHBOUR: 'it returns false'. Refute it at one input. -/
def fnReachableWrong : ChangeSpec := { name := "fnReachable", fn := fun _ => fun
  | [d] => { results := [.lit (.bool false)], args := [d] }
  | _ => none }
def FnReachableWrongFalsely : Prop := fnReachableRow.holds Tryd.pinned (OpenSpec.ofChange fnReachableWrong)

/- THE SECOND FORM. 'bulk': how many values and letters a reading holds, each counted each time it is reached (what is shared counts as often as it is met; a slice's spare places count too). A statement '..UptoSaid' is the law's where the arguments, and the package variables that the reading takes, are together of bulk at most 1048576: NARROWER than '..Said'. Prove '..Said' where nothing that the law and all that it calls make is longer than what came in: it says more and counts as full. Else prove '..UptoSaid'. A law counts once. -/
mutual
def uptoBulk {H : Type} : DataW H → Nat
  | .lit (.string bytes) => bytes.length + 1
  | .lit _ => 1
  | .nil => 1
  | .ptr d => uptoBulk d + 1
  | .slice elems spare => uptoBulkAll elems + uptoBulkAll spare + 1
  | .agg parts => uptoBulkAll parts + 1
  | .iface _ d => uptoBulk d + 1
  | .map entries => uptoBulkEntries entries + 1
  | .held _ => 1
def uptoBulkAll {H : Type} : List (DataW H) → Nat
  | [] => 0
  | d :: r => uptoBulk d + uptoBulkAll r
def uptoBulkEntries {H : Type} : List (Lit × DataW H) → Nat
  | [] => 0
  | x :: r => uptoBulkEntry x + uptoBulkEntries r
def uptoBulkEntry {H : Type} : Lit × DataW H → Nat
  | (.string bytes, d) => bytes.length + uptoBulk d + 1
  | (_, d) => uptoBulk d + 1
 end
def uptoSmall : (H : Type) → List (DataW H) → Bool := fun _ ds => decide (uptoBulkAll ds ≤ 1048576)
def OpenSpec.upto (s : _root_.Go.ChangeSpec) : _root_.Go.OpenSpec := { _root_.Go.OpenSpec.ofChange s with cond := some uptoSmall }

/-- 'laws.FnReachTrace', WHERE WHAT IT READS IS OF BULK AT MOST 1048576: true; the input reads as it did. -/
def fnReachTraceUptoRow : OpenClaim := { program := "ytbmhokbgkgfibaadoor", sum := "dc5e86cb70ddbea69030108cfb936f0b4efa6732f0755497f288aa32a57526a7", func := "loop.example/assumeguarantee/laws.FnReachTrace", spec := "fnReachTrace", recurses := true, named := ["math/bits.deBruijn32tab", "math/bits.deBruijn64tab"], apart := false, laid := [("math/bits.deBruijn32tab", laid_math_bits_deBruijn32tab), ("math/bits.deBruijn64tab", laid_math_bits_deBruijn64tab)], narrowed := true }
def FnReachTraceUptoSaid : Prop := fnReachTraceUptoRow.holds Tryd.pinned (OpenSpec.upto fnReachTraceSpec)

/-- 'laws.FnSystemWide', WHERE WHAT IT READS IS OF BULK AT MOST 1048576: true; the input reads as it did. -/
def fnSystemWideUptoRow : OpenClaim := { program := "ytbmhokbgkgfibaadoor", sum := "dc5e86cb70ddbea69030108cfb936f0b4efa6732f0755497f288aa32a57526a7", func := "loop.example/assumeguarantee/laws.FnSystemWide", spec := "fnSystemWide", recurses := true, named := ["math/bits.deBruijn32tab", "math/bits.deBruijn64tab"], apart := false, laid := [("math/bits.deBruijn32tab", laid_math_bits_deBruijn32tab), ("math/bits.deBruijn64tab", laid_math_bits_deBruijn64tab)], narrowed := true }
def FnSystemWideUptoSaid : Prop := fnSystemWideUptoRow.holds Tryd.pinned (OpenSpec.upto fnSystemWideSpec)

/-- 'laws.FnHasTrace', WHERE WHAT IT READS IS OF BULK AT MOST 1048576: true; the input reads as it did. -/
def fnHasTraceUptoRow : OpenClaim := { program := "ytbmhokbgkgfibaadoor", sum := "dc5e86cb70ddbea69030108cfb936f0b4efa6732f0755497f288aa32a57526a7", func := "loop.example/assumeguarantee/laws.FnHasTrace", spec := "fnHasTrace", recurses := true, named := ["math/bits.deBruijn32tab", "math/bits.deBruijn64tab"], apart := false, laid := [("math/bits.deBruijn32tab", laid_math_bits_deBruijn32tab), ("math/bits.deBruijn64tab", laid_math_bits_deBruijn64tab)], narrowed := true }
def FnHasTraceUptoSaid : Prop := fnHasTraceUptoRow.holds Tryd.pinned (OpenSpec.upto fnHasTraceSpec)

/-- 'laws.FnSystemDrop', WHERE WHAT IT READS IS OF BULK AT MOST 1048576: true; the input reads as it did. -/
def fnSystemDropUptoRow : OpenClaim := { program := "ytbmhokbgkgfibaadoor", sum := "dc5e86cb70ddbea69030108cfb936f0b4efa6732f0755497f288aa32a57526a7", func := "loop.example/assumeguarantee/laws.FnSystemDrop", spec := "fnSystemDrop", recurses := true, named := ["math/bits.deBruijn32tab", "math/bits.deBruijn64tab"], apart := false, laid := [("math/bits.deBruijn32tab", laid_math_bits_deBruijn32tab), ("math/bits.deBruijn64tab", laid_math_bits_deBruijn64tab)], narrowed := true }
def FnSystemDropUptoSaid : Prop := fnSystemDropUptoRow.holds Tryd.pinned (OpenSpec.upto fnSystemDropSpec)

/-- 'laws.FnStatesAfter', WHERE WHAT IT READS IS OF BULK AT MOST 1048576: true; the input reads as it did. -/
def fnStatesAfterUptoRow : OpenClaim := { program := "ytbmhokbgkgfibaadoor", sum := "dc5e86cb70ddbea69030108cfb936f0b4efa6732f0755497f288aa32a57526a7", func := "loop.example/assumeguarantee/laws.FnStatesAfter", spec := "fnStatesAfter", recurses := true, named := ["math/bits.deBruijn32tab", "math/bits.deBruijn64tab"], apart := false, laid := [("math/bits.deBruijn32tab", laid_math_bits_deBruijn32tab), ("math/bits.deBruijn64tab", laid_math_bits_deBruijn64tab)], narrowed := true }
def FnStatesAfterUptoSaid : Prop := fnStatesAfterUptoRow.holds Tryd.pinned (OpenSpec.upto fnStatesAfterSpec)

/-- 'laws.FnLettersAfter', WHERE WHAT IT READS IS OF BULK AT MOST 1048576: true; the input reads as it did. -/
def fnLettersAfterUptoRow : OpenClaim := { program := "ytbmhokbgkgfibaadoor", sum := "dc5e86cb70ddbea69030108cfb936f0b4efa6732f0755497f288aa32a57526a7", func := "loop.example/assumeguarantee/laws.FnLettersAfter", spec := "fnLettersAfter", recurses := true, named := ["math/bits.deBruijn32tab", "math/bits.deBruijn64tab"], apart := false, laid := [("math/bits.deBruijn32tab", laid_math_bits_deBruijn32tab), ("math/bits.deBruijn64tab", laid_math_bits_deBruijn64tab)], narrowed := true }
def FnLettersAfterUptoSaid : Prop := fnLettersAfterUptoRow.holds Tryd.pinned (OpenSpec.upto fnLettersAfterSpec)

/-- 'laws.FnReachable', WHERE WHAT IT READS IS OF BULK AT MOST 1048576: true; the input reads as it did. -/
def fnReachableUptoRow : OpenClaim := { program := "ytbmhokbgkgfibaadoor", sum := "dc5e86cb70ddbea69030108cfb936f0b4efa6732f0755497f288aa32a57526a7", func := "loop.example/assumeguarantee/laws.FnReachable", spec := "fnReachable", recurses := true, named := ["math/bits.deBruijn32tab", "math/bits.deBruijn64tab"], apart := false, laid := [("math/bits.deBruijn32tab", laid_math_bits_deBruijn32tab), ("math/bits.deBruijn64tab", laid_math_bits_deBruijn64tab)], narrowed := true }
def FnReachableUptoSaid : Prop := fnReachableUptoRow.holds Tryd.pinned (OpenSpec.upto fnReachableSpec)

end Rows
end Go.Proofs.YtbmhokbgkgfibaaDoor
