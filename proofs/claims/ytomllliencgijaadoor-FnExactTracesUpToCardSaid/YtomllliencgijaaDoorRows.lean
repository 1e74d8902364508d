/-
  NARROWER THAN 'FOR EVERY INPUT', by the rows' own cells (each row's printed sentence says how): FnExactReachableStates: laid · FnExactTracesUpTo: laid · FnExactStatesAfter: laid · FnExactHasTrace: laid · FnExactLettersAfter: laid · FnExactTrimSystem: laid · FnExactRunOf: laid.
  DERIVED. THE GIVEN ROWS OF THIS SEAT. 7 by the template 'for every input the law returns true; each argument reads behind the call as it read before'; 0 by the template 'total and deterministic' (their statements: YtomllliencgijaaDoorTotals.lean).
  GIVEN WITH THE SEED: the statements are not yours to turn. If you find one false, say at which input.
  Laid BY PROGRAM, IN A SANDBOX (cutbox-rows.mjs): the forced cells as the released guide's own fill.sh prints them over the translation 02cc72aee841039d… (all of the seat's roots in one cut). By AI agents, Wed Nov 11 2026. No macro, syntax, notation, axiom, sorry.
-/
import Derived.Test.YtomllliencgijaaDoorChecked
import GoSem.Claim
import GoSem.ClaimJoined
import GoSem.ClaimMapViews
import Derived.JoinedTies
import Derived.KernelRfl
namespace Go.Proofs.YtomllliencgijaaDoor
/- THE CELL 'sum', in the pinned program and in every row, IS THE sha256 OF THE DUMP (.gsa) THAT YtomllliencgijaaDoorProg.lean LOADS. Nothing in Lean hashes anything: it is a label: what it is worth is what the hold of that sum in a sandbox is worth. -/
noncomputable def Tryd.pinned : Pinned := { name := "ytomllliencgijaadoor", sum := "02cc72aee841039da3e501f256efed2683e1b8634e4d424d973a29b2a2d08d85", checked := Tryd.checked }
namespace Rows
def none {H : Type} : Left H := { results := [], args := [] }

/- WHAT THE LISTED PACKAGE-LEVEL VARIABLES READ AS WHEN THE CALL BEGINS. Each datum BY PROGRAM (the guide's laid-datum.mjs) off the statement by which the dump's own 'gosem.cut.vars' lays the variable. In a bare row this is a premise. The card (YtomllliencgijaaDoorCards.lean) ties it to the program's text. -/
def laid_math_bits_deBruijn32tab {H : Type} : DataW H := .agg [.lit (.int .u8 0), .lit (.int .u8 1), .lit (.int .u8 28), .lit (.int .u8 2), .lit (.int .u8 29), .lit (.int .u8 14), .lit (.int .u8 24), .lit (.int .u8 3), .lit (.int .u8 30), .lit (.int .u8 22), .lit (.int .u8 20), .lit (.int .u8 15), .lit (.int .u8 25), .lit (.int .u8 17), .lit (.int .u8 4), .lit (.int .u8 8), .lit (.int .u8 31), .lit (.int .u8 27), .lit (.int .u8 13), .lit (.int .u8 23), .lit (.int .u8 21), .lit (.int .u8 19), .lit (.int .u8 16), .lit (.int .u8 7), .lit (.int .u8 26), .lit (.int .u8 12), .lit (.int .u8 18), .lit (.int .u8 6), .lit (.int .u8 11), .lit (.int .u8 5), .lit (.int .u8 10), .lit (.int .u8 9)]
def laid_math_bits_deBruijn64tab {H : Type} : DataW H := .agg [.lit (.int .u8 0), .lit (.int .u8 1), .lit (.int .u8 56), .lit (.int .u8 2), .lit (.int .u8 57), .lit (.int .u8 49), .lit (.int .u8 28), .lit (.int .u8 3), .lit (.int .u8 61), .lit (.int .u8 58), .lit (.int .u8 42), .lit (.int .u8 50), .lit (.int .u8 38), .lit (.int .u8 29), .lit (.int .u8 17), .lit (.int .u8 4), .lit (.int .u8 62), .lit (.int .u8 47), .lit (.int .u8 59), .lit (.int .u8 36), .lit (.int .u8 45), .lit (.int .u8 43), .lit (.int .u8 51), .lit (.int .u8 22), .lit (.int .u8 53), .lit (.int .u8 39), .lit (.int .u8 33), .lit (.int .u8 30), .lit (.int .u8 24), .lit (.int .u8 18), .lit (.int .u8 12), .lit (.int .u8 5), .lit (.int .u8 63), .lit (.int .u8 55), .lit (.int .u8 48), .lit (.int .u8 27), .lit (.int .u8 60), .lit (.int .u8 41), .lit (.int .u8 37), .lit (.int .u8 16), .lit (.int .u8 46), .lit (.int .u8 35), .lit (.int .u8 44), .lit (.int .u8 21), .lit (.int .u8 52), .lit (.int .u8 32), .lit (.int .u8 23), .lit (.int .u8 11), .lit (.int .u8 54), .lit (.int .u8 26), .lit (.int .u8 40), .lit (.int .u8 15), .lit (.int .u8 34), .lit (.int .u8 20), .lit (.int .u8 31), .lit (.int .u8 10), .lit (.int .u8 25), .lit (.int .u8 14), .lit (.int .u8 19), .lit (.int .u8 9), .lit (.int .u8 13), .lit (.int .u8 8), .lit (.int .u8 7), .lit (.int .u8 6)]

/-- 'laws.FnExactReachableStates': WHATEVER THE INPUT: true; the input reads as it did. -/
def fnExactReachableStatesSpec : ChangeSpec := { name := "fnExactReachableStates", fn := fun _ => fun
  | [d] => { results := [.lit (.bool true)], args := [d] }
  | _ => none }
def fnExactReachableStatesRow : OpenClaim := { program := "ytomllliencgijaadoor", sum := "02cc72aee841039da3e501f256efed2683e1b8634e4d424d973a29b2a2d08d85", func := "loop.example/assumeguarantee/laws.FnExactReachableStates", spec := "fnExactReachableStates", named := ["math/bits.deBruijn32tab", "math/bits.deBruijn64tab"], apart := false, laid := [("math/bits.deBruijn32tab", laid_math_bits_deBruijn32tab), ("math/bits.deBruijn64tab", laid_math_bits_deBruijn64tab)] }
def FnExactReachableStatesSaid : Prop := fnExactReachableStatesRow.holds Tryd.pinned (OpenSpec.ofChange fnExactReachableStatesSpec)

/-- ITS FALSE NEIGHBOUR: 'it returns false'. Refute it at one input. -/
def fnExactReachableStatesWrong : ChangeSpec := { name := "fnExactReachableStates", fn := fun _ => fun
  | [d] => { results := [.lit (.bool false)], args := [d] }
  | _ => none }
def FnExactReachableStatesWrongFalsely : Prop := fnExactReachableStatesRow.holds Tryd.pinned (OpenSpec.ofChange fnExactReachableStatesWrong)

/-- 'laws.FnExactTracesUpTo': WHATEVER THE INPUT: true; the input reads as it did. -/
def fnExactTracesUpToSpec : ChangeSpec := { name := "fnExactTracesUpTo", fn := fun _ => fun
  | [d1, d2] => { results := [.lit (.bool true)], args := [d1, d2] }
  | _ => none }
def fnExactTracesUpToRow : OpenClaim := { program := "ytomllliencgijaadoor", sum := "02cc72aee841039da3e501f256efed2683e1b8634e4d424d973a29b2a2d08d85", func := "loop.example/assumeguarantee/laws.FnExactTracesUpTo", spec := "fnExactTracesUpTo", recurses := true, named := ["math/bits.deBruijn32tab", "math/bits.deBruijn64tab"], apart := false, laid := [("math/bits.deBruijn32tab", laid_math_bits_deBruijn32tab), ("math/bits.deBruijn64tab", laid_math_bits_deBruijn64tab)] }
def FnExactTracesUpToSaid : Prop := fnExactTracesUpToRow.holds Tryd.pinned (OpenSpec.ofChange fnExactTracesUpToSpec)

/-- ITS FALSE NEIGHBOUR: 'it returns false'. Refute it at one input. -/
def fnExactTracesUpToWrong : ChangeSpec := { name := "fnExactTracesUpTo", fn := fun _ => fun
  | [d1, d2] => { results := [.lit (.bool false)], args := [d1, d2] }
  | _ => none }
def FnExactTracesUpToWrongFalsely : Prop := fnExactTracesUpToRow.holds Tryd.pinned (OpenSpec.ofChange fnExactTracesUpToWrong)

/-- 'laws.FnExactStatesAfter': WHATEVER THE INPUT: true; the input reads as it did. -/
def fnExactStatesAfterSpec : ChangeSpec := { name := "fnExactStatesAfter", fn := fun _ => fun
  | [d1, d2] => { results := [.lit (.bool true)], args := [d1, d2] }
  | _ => none }
def fnExactStatesAfterRow : OpenClaim := { program := "ytomllliencgijaadoor", sum := "02cc72aee841039da3e501f256efed2683e1b8634e4d424d973a29b2a2d08d85", func := "loop.example/assumeguarantee/laws.FnExactStatesAfter", spec := "fnExactStatesAfter", named := ["math/bits.deBruijn32tab", "math/bits.deBruijn64tab"], apart := false, laid := [("math/bits.deBruijn32tab", laid_math_bits_deBruijn32tab), ("math/bits.deBruijn64tab", laid_math_bits_deBruijn64tab)] }
def FnExactStatesAfterSaid : Prop := fnExactStatesAfterRow.holds Tryd.pinned (OpenSpec.ofChange fnExactStatesAfterSpec)

/-- ITS FALSE NEIGHBOUR: 'it returns false'. Refute it at one input. -/
def fnExactStatesAfterWrong : ChangeSpec := { name := "fnExactStatesAfter", fn := fun _ => fun
  | [d1, d2] => { results := [.lit (.bool false)], args := [d1, d2] }
  | _ => none }
def FnExactStatesAfterWrongFalsely : Prop := fnExactStatesAfterRow.holds Tryd.pinned (OpenSpec.ofChange fnExactStatesAfterWrong)

/-- 'laws.FnExactHasTrace': WHATEVER THE INPUT: true; the input reads as it did. -/
def fnExactHasTraceSpec : ChangeSpec := { name := "fnExactHasTrace", fn := fun _ => fun
  | [d1, d2] => { results := [.lit (.bool true)], args := [d1, d2] }
  | _ => none }
def fnExactHasTraceRow : OpenClaim := { program := "ytomllliencgijaadoor", sum := "02cc72aee841039da3e501f256efed2683e1b8634e4d424d973a29b2a2d08d85", func := "loop.example/assumeguarantee/laws.FnExactHasTrace", spec := "fnExactHasTrace", named := ["math/bits.deBruijn32tab", "math/bits.deBruijn64tab"], apart := false, laid := [("math/bits.deBruijn32tab", laid_math_bits_deBruijn32tab), ("math/bits.deBruijn64tab", laid_math_bits_deBruijn64tab)] }
def FnExactHasTraceSaid : Prop := fnExactHasTraceRow.holds Tryd.pinned (OpenSpec.ofChange fnExactHasTraceSpec)

/-- ITS FALSE NEIGHBOUR: 'it returns false'. Refute it at one input. -/
def fnExactHasTraceWrong : ChangeSpec := { name := "fnExactHasTrace", fn := fun _ => fun
  | [d1, d2] => { results := [.lit (.bool false)], args := [d1, d2] }
  | _ => none }
def FnExactHasTraceWrongFalsely : Prop := fnExactHasTraceRow.holds Tryd.pinned (OpenSpec.ofChange fnExactHasTraceWrong)

/-- 'laws.FnExactLettersAfter': WHATEVER THE INPUT: true; the input reads as it did. -/
def fnExactLettersAfterSpec : ChangeSpec := { name := "fnExactLettersAfter", fn := fun _ => fun
  | [d1, d2] => { results := [.lit (.bool true)], args := [d1, d2] }
  | _ => none }
def fnExactLettersAfterRow : OpenClaim := { program := "ytomllliencgijaadoor", sum := "02cc72aee841039da3e501f256efed2683e1b8634e4d424d973a29b2a2d08d85", func := "loop.example/assumeguarantee/laws.FnExactLettersAfter", spec := "fnExactLettersAfter", named := ["math/bits.deBruijn32tab", "math/bits.deBruijn64tab"], apart := false, laid := [("math/bits.deBruijn32tab", laid_math_bits_deBruijn32tab), ("math/bits.deBruijn64tab", laid_math_bits_deBruijn64tab)] }
def FnExactLettersAfterSaid : Prop := fnExactLettersAfterRow.holds Tryd.pinned (OpenSpec.ofChange fnExactLettersAfterSpec)

/-- ITS FALSE NEIGHBOUR: 'it returns false'. Refute it at one input. -/
def fnExactLettersAfterWrong : ChangeSpec := { name := "fnExactLettersAfter", fn := fun _ => fun
  | [d1, d2] => { results := [.lit (.bool false)], args := [d1, d2] }
  | _ => none }
def FnExactLettersAfterWrongFalsely : Prop := fnExactLettersAfterRow.holds Tryd.pinned (OpenSpec.ofChange fnExactLettersAfterWrong)

/-- 'laws.FnExactTrimSystem': WHATEVER THE INPUT: true; the input reads as it did. -/
def fnExactTrimSystemSpec : ChangeSpec := { name := "fnExactTrimSystem", fn := fun _ => fun
  | [d] => { results := [.lit (.bool true)], args := [d] }
  | _ => none }
def fnExactTrimSystemRow : OpenClaim := { program := "ytomllliencgijaadoor", sum := "02cc72aee841039da3e501f256efed2683e1b8634e4d424d973a29b2a2d08d85", func := "loop.example/assumeguarantee/laws.FnExactTrimSystem", spec := "fnExactTrimSystem", named := ["math/bits.deBruijn32tab", "math/bits.deBruijn64tab"], apart := false, laid := [("math/bits.deBruijn32tab", laid_math_bits_deBruijn32tab), ("math/bits.deBruijn64tab", laid_math_bits_deBruijn64tab)] }
def FnExactTrimSystemSaid : Prop := fnExactTrimSystemRow.holds Tryd.pinned (OpenSpec.ofChange fnExactTrimSystemSpec)

/-- ITS FALSE NEIGHBOUR: 'it returns false'. Refute it at one input. -/
def fnExactTrimSystemWrong : ChangeSpec := { name := "fnExactTrimSystem", fn := fun _ => fun
  | [d] => { results := [.lit (.bool false)], args := [d] }
  | _ => none }
def FnExactTrimSystemWrongFalsely : Prop := fnExactTrimSystemRow.holds Tryd.pinned (OpenSpec.ofChange fnExactTrimSystemWrong)

/-- 'laws.FnExactRunOf': WHATEVER THE INPUT: true; the input reads as it did. -/
def fnExactRunOfSpec : ChangeSpec := { name := "fnExactRunOf", fn := fun _ => fun
  | [d1, d2] => { results := [.lit (.bool true)], args := [d1, d2] }
  | _ => none }
def fnExactRunOfRow : OpenClaim := { program := "ytomllliencgijaadoor", sum := "02cc72aee841039da3e501f256efed2683e1b8634e4d424d973a29b2a2d08d85", func := "loop.example/assumeguarantee/laws.FnExactRunOf", spec := "fnExactRunOf", named := ["math/bits.deBruijn32tab", "math/bits.deBruijn64tab"], apart := false, laid := [("math/bits.deBruijn32tab", laid_math_bits_deBruijn32tab), ("math/bits.deBruijn64tab", laid_math_bits_deBruijn64tab)] }
def FnExactRunOfSaid : Prop := fnExactRunOfRow.holds Tryd.pinned (OpenSpec.ofChange fnExactRunOfSpec)

/-- ITS FALSE NEIGHBOUR: 'it returns false'. Refute it at one input. -/
def fnExactRunOfWrong : ChangeSpec := { name := "fnExactRunOf", fn := fun _ => fun
  | [d1, d2] => { results := [.lit (.bool false)], args := [d1, d2] }
  | _ => none }
def FnExactRunOfWrongFalsely : Prop := fnExactRunOfRow.holds Tryd.pinned (OpenSpec.ofChange fnExactRunOfWrong)

/- THE SECOND FORM. 'bulk': how many values and letters a reading holds, each counted each time it is reached (what is shared counts as often as it is met; a slice's spare places count too). A statement '..UptoSaid' is the law's where the arguments, and the package variables that the reading takes, are together of bulk at most 1048576: NARROWER than '..Said'. Prove '..Said' where nothing that the law and all that it calls make is longer than what came in: it says more and counts as full. Else prove '..UptoSaid'. A law counts once. -/
mutual
def uptoBulk {H : Type} : DataW H → Nat
  | .lit (.string bytes) => bytes.length + 1
  | .lit _ => 1
  | .nil => 1
  | .ptr d => uptoBulk d + 1
  | .slice elems spare => uptoBulkAll elems + uptoBulkAll spare + 1
  | .agg parts => uptoBulkAll parts + 1
  | .iface _ d => uptoBulk d + 1
  | .map entries => uptoBulkEntries entries + 1
  | .held _ => 1
def uptoBulkAll {H : Type} : List (DataW H) → Nat
  | [] => 0
  | d :: r => uptoBulk d + uptoBulkAll r
def uptoBulkEntries {H : Type} : List (Lit × DataW H) → Nat
  | [] => 0
  | x :: r => uptoBulkEntry x + uptoBulkEntries r
def uptoBulkEntry {H : Type} : Lit × DataW H → Nat
  | (.string bytes, d) => bytes.length + uptoBulk d + 1
  | (_, d) => uptoBulk d + 1
 end
def uptoSmall : (H : Type) → List (DataW H) → Bool := fun _ ds => decide (uptoBulkAll ds ≤ 1048576)
def OpenSpec.upto (s : _root_.Go.ChangeSpec) : _root_.Go.OpenSpec := { _root_.Go.OpenSpec.ofChange s with cond := some uptoSmall }

/-- 'laws.FnExactReachableStates', WHERE WHAT IT READS IS OF BULK AT MOST 1048576: true; the input reads as it did. -/
def fnExactReachableStatesUptoRow : OpenClaim := { program := "ytomllliencgijaadoor", sum := "02cc72aee841039da3e501f256efed2683e1b8634e4d424d973a29b2a2d08d85", func := "loop.example/assumeguarantee/laws.FnExactReachableStates", spec := "fnExactReachableStates", named := ["math/bits.deBruijn32tab", "math/bits.deBruijn64tab"], apart := false, laid := [("math/bits.deBruijn32tab", laid_math_bits_deBruijn32tab), ("math/bits.deBruijn64tab", laid_math_bits_deBruijn64tab)], narrowed := true }
def FnExactReachableStatesUptoSaid : Prop := fnExactReachableStatesUptoRow.holds Tryd.pinned (OpenSpec.upto fnExactReachableStatesSpec)

/-- 'laws.FnExactTracesUpTo', WHERE WHAT IT READS IS OF BULK AT MOST 1048576: true; the input reads as it did. -/
def fnExactTracesUpToUptoRow : OpenClaim := { program := "ytomllliencgijaadoor", sum := "02cc72aee841039da3e501f256efed2683e1b8634e4d424d973a29b2a2d08d85", func := "loop.example/assumeguarantee/laws.FnExactTracesUpTo", spec := "fnExactTracesUpTo", recurses := true, named := ["math/bits.deBruijn32tab", "math/bits.deBruijn64tab"], apart := false, laid := [("math/bits.deBruijn32tab", laid_math_bits_deBruijn32tab), ("math/bits.deBruijn64tab", laid_math_bits_deBruijn64tab)], narrowed := true }
def FnExactTracesUpToUptoSaid : Prop := fnExactTracesUpToUptoRow.holds Tryd.pinned (OpenSpec.upto fnExactTracesUpToSpec)

/-- 'laws.FnExactStatesAfter', WHERE WHAT IT READS IS OF BULK AT MOST 1048576: true; the input reads as it did. -/
def fnExactStatesAfterUptoRow : OpenClaim := { program := "ytomllliencgijaadoor", sum := "02cc72aee841039da3e501f256efed2683e1b8634e4d424d973a29b2a2d08d85", func := "loop.example/assumeguarantee/laws.FnExactStatesAfter", spec := "fnExactStatesAfter", named := ["math/bits.deBruijn32tab", "math/bits.deBruijn64tab"], apart := false, laid := [("math/bits.deBruijn32tab", laid_math_bits_deBruijn32tab), ("math/bits.deBruijn64tab", laid_math_bits_deBruijn64tab)], narrowed := true }
def FnExactStatesAfterUptoSaid : Prop := fnExactStatesAfterUptoRow.holds Tryd.pinned (OpenSpec.upto fnExactStatesAfterSpec)

/-- 'laws.FnExactHasTrace', WHERE WHAT IT READS IS OF BULK AT MOST 1048576: true; the input reads as it did. -/
def fnExactHasTraceUptoRow : OpenClaim := { program := "ytomllliencgijaadoor", sum := "02cc72aee841039da3e501f256efed2683e1b8634e4d424d973a29b2a2d08d85", func := "loop.example/assumeguarantee/laws.FnExactHasTrace", spec := "fnExactHasTrace", named := ["math/bits.deBruijn32tab", "math/bits.deBruijn64tab"], apart := false, laid := [("math/bits.deBruijn32tab", laid_math_bits_deBruijn32tab), ("math/bits.deBruijn64tab", laid_math_bits_deBruijn64tab)], narrowed := true }
def FnExactHasTraceUptoSaid : Prop := fnExactHasTraceUptoRow.holds Tryd.pinned (OpenSpec.upto fnExactHasTraceSpec)

/-- 'laws.FnExactLettersAfter', WHERE WHAT IT READS IS OF BULK AT MOST 1048576: true; the input reads as it did. -/
def fnExactLettersAfterUptoRow : OpenClaim := { program := "ytomllliencgijaadoor", sum := "02cc72aee841039da3e501f256efed2683e1b8634e4d424d973a29b2a2d08d85", func := "loop.example/assumeguarantee/laws.FnExactLettersAfter", spec := "fnExactLettersAfter", named := ["math/bits.deBruijn32tab", "math/bits.deBruijn64tab"], apart := false, laid := [("math/bits.deBruijn32tab", laid_math_bits_deBruijn32tab), ("math/bits.deBruijn64tab", laid_math_bits_deBruijn64tab)], narrowed := true }
def FnExactLettersAfterUptoSaid : Prop := fnExactLettersAfterUptoRow.holds Tryd.pinned (OpenSpec.upto fnExactLettersAfterSpec)

/-- 'laws.FnExactTrimSystem', WHERE WHAT IT READS IS OF BULK AT MOST 1048576: true; the input reads as it did. -/
def fnExactTrimSystemUptoRow : OpenClaim := { program := "ytomllliencgijaadoor", sum := "02cc72aee841039da3e501f256efed2683e1b8634e4d424d973a29b2a2d08d85", func := "loop.example/assumeguarantee/laws.FnExactTrimSystem", spec := "fnExactTrimSystem", named := ["math/bits.deBruijn32tab", "math/bits.deBruijn64tab"], apart := false, laid := [("math/bits.deBruijn32tab", laid_math_bits_deBruijn32tab), ("math/bits.deBruijn64tab", laid_math_bits_deBruijn64tab)], narrowed := true }
def FnExactTrimSystemUptoSaid : Prop := fnExactTrimSystemUptoRow.holds Tryd.pinned (OpenSpec.upto fnExactTrimSystemSpec)

/-- 'laws.FnExactRunOf', WHERE WHAT IT READS IS OF BULK AT MOST 1048576: true; the input reads as it did. -/
def fnExactRunOfUptoRow : OpenClaim := { program := "ytomllliencgijaadoor", sum := "02cc72aee841039da3e501f256efed2683e1b8634e4d424d973a29b2a2d08d85", func := "loop.example/assumeguarantee/laws.FnExactRunOf", spec := "fnExactRunOf", named := ["math/bits.deBruijn32tab", "math/bits.deBruijn64tab"], apart := false, laid := [("math/bits.deBruijn32tab", laid_math_bits_deBruijn32tab), ("math/bits.deBruijn64tab", laid_math_bits_deBruijn64tab)], narrowed := true }
def FnExactRunOfUptoSaid : Prop := fnExactRunOfUptoRow.holds Tryd.pinned (OpenSpec.upto fnExactRunOfSpec)

end Rows
end Go.Proofs.YtomllliencgijaaDoor
