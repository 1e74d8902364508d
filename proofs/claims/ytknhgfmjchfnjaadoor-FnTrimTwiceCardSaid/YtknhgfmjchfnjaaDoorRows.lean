/-
  NARROWER THAN 'FOR EVERY INPUT', by the rows' own cells (each row's printed sentence says how): FnTrimTraces: laid · FnTracesGrow: laid · FnTracesUpTo: laid · FnTrimTwice: laid · FnSystemStill: laid · FnRunBegins: laid · FnRunOf: laid.
  DERIVED. THE GIVEN ROWS OF THIS SEAT. 7 by the template 'for every input the law returns true; each argument reads behind the call as it read before'; 0 by the template 'total and deterministic' (their statements: YtknhgfmjchfnjaaDoorTotals.lean).
  GIVEN WITH THE SEED: the statements are not yours to turn. If you find one false, say at which input.
  Laid BY PROGRAM, IN A SANDBOX (cutbox-rows.mjs): the forced cells as the released guide's own fill.sh prints them over the translation 1fc3059804c5473f… (all of the seat's roots in one cut). By AI agents, Wed Nov 11 2026. No macro, syntax, notation, axiom, sorry.
-/
import Derived.Test.YtknhgfmjchfnjaaDoorChecked
import GoSem.Claim
import GoSem.ClaimJoined
import GoSem.ClaimMapViews
import Derived.JoinedTies
import Derived.KernelRfl
namespace Go.Proofs.YtknhgfmjchfnjaaDoor
/- THE CELL 'sum', in the pinned program and in every row, IS THE sha256 OF THE DUMP (.gsa) THAT YtknhgfmjchfnjaaDoorProg.lean LOADS. Nothing in Lean hashes anything: it is a label: what it is worth is what the hold of that sum in a sandbox is worth. -/
noncomputable def Tryd.pinned : Pinned := { name := "ytknhgfmjchfnjaadoor", sum := "1fc3059804c5473f63a73e2659cc38195ad09b40e0e60738993fc884d7587d0d", checked := Tryd.checked }
namespace Rows
def none {H : Type} : Left H := { results := [], args := [] }

/- WHAT THE LISTED PACKAGE-LEVEL VARIABLES READ AS WHEN THE CALL BEGINS. Each datum BY PROGRAM (the guide's laid-datum.mjs) off the statement by which the dump's own 'gosem.cut.vars' lays the variable. In a bare row this is a premise. The card (YtknhgfmjchfnjaaDoorCards.lean) ties it to the program's text. -/
def laid_math_bits_deBruijn32tab {H : Type} : DataW H := .agg [.lit (.int .u8 0), .lit (.int .u8 1), .lit (.int .u8 28), .lit (.int .u8 2), .lit (.int .u8 29), .lit (.int .u8 14), .lit (.int .u8 24), .lit (.int .u8 3), .lit (.int .u8 30), .lit (.int .u8 22), .lit (.int .u8 20), .lit (.int .u8 15), .lit (.int .u8 25), .lit (.int .u8 17), .lit (.int .u8 4), .lit (.int .u8 8), .lit (.int .u8 31), .lit (.int .u8 27), .lit (.int .u8 13), .lit (.int .u8 23), .lit (.int .u8 21), .lit (.int .u8 19), .lit (.int .u8 16), .lit (.int .u8 7), .lit (.int .u8 26), .lit (.int .u8 12), .lit (.int .u8 18), .lit (.int .u8 6), .lit (.int .u8 11), .lit (.int .u8 5), .lit (.int .u8 10), .lit (.int .u8 9)]
def laid_math_bits_deBruijn64tab {H : Type} : DataW H := .agg [.lit (.int .u8 0), .lit (.int .u8 1), .lit (.int .u8 56), .lit (.int .u8 2), .lit (.int .u8 57), .lit (.int .u8 49), .lit (.int .u8 28), .lit (.int .u8 3), .lit (.int .u8 61), .lit (.int .u8 58), .lit (.int .u8 42), .lit (.int .u8 50), .lit (.int .u8 38), .lit (.int .u8 29), .lit (.int .u8 17), .lit (.int .u8 4), .lit (.int .u8 62), .lit (.int .u8 47), .lit (.int .u8 59), .lit (.int .u8 36), .lit (.int .u8 45), .lit (.int .u8 43), .lit (.int .u8 51), .lit (.int .u8 22), .lit (.int .u8 53), .lit (.int .u8 39), .lit (.int .u8 33), .lit (.int .u8 30), .lit (.int .u8 24), .lit (.int .u8 18), .lit (.int .u8 12), .lit (.int .u8 5), .lit (.int .u8 63), .lit (.int .u8 55), .lit (.int .u8 48), .lit (.int .u8 27), .lit (.int .u8 60), .lit (.int .u8 41), .lit (.int .u8 37), .lit (.int .u8 16), .lit (.int .u8 46), .lit (.int .u8 35), .lit (.int .u8 44), .lit (.int .u8 21), .lit (.int .u8 52), .lit (.int .u8 32), .lit (.int .u8 23), .lit (.int .u8 11), .lit (.int .u8 54), .lit (.int .u8 26), .lit (.int .u8 40), .lit (.int .u8 15), .lit (.int .u8 34), .lit (.int .u8 20), .lit (.int .u8 31), .lit (.int .u8 10), .lit (.int .u8 25), .lit (.int .u8 14), .lit (.int .u8 19), .lit (.int .u8 9), .lit (.int .u8 13), .lit (.int .u8 8), .lit (.int .u8 7), .lit (.int .u8 6)]

/-- 'laws.FnTrimTraces': WHATEVER THE INPUT: true; the input reads as it did. -/
def fnTrimTracesSpec : ChangeSpec := { name := "fnTrimTraces", fn := fun _ => fun
  | [d] => { results := [.lit (.bool true)], args := [d] }
  | _ => none }
def fnTrimTracesRow : OpenClaim := { program := "ytknhgfmjchfnjaadoor", sum := "1fc3059804c5473f63a73e2659cc38195ad09b40e0e60738993fc884d7587d0d", func := "loop.example/assumeguarantee/laws.FnTrimTraces", spec := "fnTrimTraces", recurses := true, named := ["math/bits.deBruijn32tab", "math/bits.deBruijn64tab"], apart := false, laid := [("math/bits.deBruijn32tab", laid_math_bits_deBruijn32tab), ("math/bits.deBruijn64tab", laid_math_bits_deBruijn64tab)] }
def FnTrimTracesSaid : Prop := fnTrimTracesRow.holds Tryd.pinned (OpenSpec.ofChange fnTrimTracesSpec)

/-- ITS FALSE NEIGHBOUR: 'it returns false'. Refute it at one input. -/
def fnTrimTracesWrong : ChangeSpec := { name := "fnTrimTraces", fn := fun _ => fun
  | [d] => { results := [.lit (.bool false)], args := [d] }
  | _ => none }
def FnTrimTracesWrongFalsely : Prop := fnTrimTracesRow.holds Tryd.pinned (OpenSpec.ofChange fnTrimTracesWrong)

/-- 'laws.FnTracesGrow': WHATEVER THE INPUT: true; the input reads as it did. -/
def fnTracesGrowSpec : ChangeSpec := { name := "fnTracesGrow", fn := fun _ => fun
  | [d] => { results := [.lit (.bool true)], args := [d] }
  | _ => none }
def fnTracesGrowRow : OpenClaim := { program := "ytknhgfmjchfnjaadoor", sum := "1fc3059804c5473f63a73e2659cc38195ad09b40e0e60738993fc884d7587d0d", func := "loop.example/assumeguarantee/laws.FnTracesGrow", spec := "fnTracesGrow", recurses := true, named := ["math/bits.deBruijn32tab", "math/bits.deBruijn64tab"], apart := false, laid := [("math/bits.deBruijn32tab", laid_math_bits_deBruijn32tab), ("math/bits.deBruijn64tab", laid_math_bits_deBruijn64tab)] }
def FnTracesGrowSaid : Prop := fnTracesGrowRow.holds Tryd.pinned (OpenSpec.ofChange fnTracesGrowSpec)

/-- ITS FALSE NEIGHBOUR: 'it returns false'. Refute it at one input. -/
def fnTracesGrowWrong : ChangeSpec := { name := "fnTracesGrow", fn := fun _ => fun
  | [d] => { results := [.lit (.bool false)], args := [d] }
  | _ => none }
def FnTracesGrowWrongFalsely : Prop := fnTracesGrowRow.holds Tryd.pinned (OpenSpec.ofChange fnTracesGrowWrong)

/-- 'laws.FnTracesUpTo': WHATEVER THE INPUT: true; the input reads as it did. -/
def fnTracesUpToSpec : ChangeSpec := { name := "fnTracesUpTo", fn := fun _ => fun
  | [d] => { results := [.lit (.bool true)], args := [d] }
  | _ => none }
def fnTracesUpToRow : OpenClaim := { program := "ytknhgfmjchfnjaadoor", sum := "1fc3059804c5473f63a73e2659cc38195ad09b40e0e60738993fc884d7587d0d", func := "loop.example/assumeguarantee/laws.FnTracesUpTo", spec := "fnTracesUpTo", recurses := true, named := ["math/bits.deBruijn32tab", "math/bits.deBruijn64tab"], apart := false, laid := [("math/bits.deBruijn32tab", laid_math_bits_deBruijn32tab), ("math/bits.deBruijn64tab", laid_math_bits_deBruijn64tab)] }
def FnTracesUpToSaid : Prop := fnTracesUpToRow.holds Tryd.pinned (OpenSpec.ofChange fnTracesUpToSpec)

/-- ITS FALSE NEIGHBOUR: 'it returns false'. Refute it at one input. -/
def fnTracesUpToWrong : ChangeSpec := { name := "fnTracesUpTo", fn := fun _ => fun
  | [d] => { results := [.lit (.bool false)], args := [d] }
  | _ => none }
def FnTracesUpToWrongFalsely : Prop := fnTracesUpToRow.holds Tryd.pinned (OpenSpec.ofChange fnTracesUpToWrong)

/-- 'laws.FnTrimTwice': WHATEVER THE INPUT: true; the input reads as it did. -/
def fnTrimTwiceSpec : ChangeSpec := { name := "fnTrimTwice", fn := fun _ => fun
  | [d] => { results := [.lit (.bool true)], args := [d] }
  | _ => none }
def fnTrimTwiceRow : OpenClaim := { program := "ytknhgfmjchfnjaadoor", sum := "1fc3059804c5473f63a73e2659cc38195ad09b40e0e60738993fc884d7587d0d", func := "loop.example/assumeguarantee/laws.FnTrimTwice", spec := "fnTrimTwice", recurses := true, named := ["math/bits.deBruijn32tab", "math/bits.deBruijn64tab"], apart := false, laid := [("math/bits.deBruijn32tab", laid_math_bits_deBruijn32tab), ("math/bits.deBruijn64tab", laid_math_bits_deBruijn64tab)] }
def FnTrimTwiceSaid : Prop := fnTrimTwiceRow.holds Tryd.pinned (OpenSpec.ofChange fnTrimTwiceSpec)

/-- ITS FALSE NEIGHBOUR: 'it returns false'. Refute it at one input. -/
def fnTrimTwiceWrong : ChangeSpec := { name := "fnTrimTwice", fn := fun _ => fun
  | [d] => { results := [.lit (.bool false)], args := [d] }
  | _ => none }
def FnTrimTwiceWrongFalsely : Prop := fnTrimTwiceRow.holds Tryd.pinned (OpenSpec.ofChange fnTrimTwiceWrong)

/-- 'laws.FnSystemStill': WHATEVER THE INPUT: true; the input reads as it did. -/
def fnSystemStillSpec : ChangeSpec := { name := "fnSystemStill", fn := fun _ => fun
  | [d] => { results := [.lit (.bool true)], args := [d] }
  | _ => none }
def fnSystemStillRow : OpenClaim := { program := "ytknhgfmjchfnjaadoor", sum := "1fc3059804c5473f63a73e2659cc38195ad09b40e0e60738993fc884d7587d0d", func := "loop.example/assumeguarantee/laws.FnSystemStill", spec := "fnSystemStill", recurses := true, named := ["math/bits.deBruijn32tab", "math/bits.deBruijn64tab"], apart := false, laid := [("math/bits.deBruijn32tab", laid_math_bits_deBruijn32tab), ("math/bits.deBruijn64tab", laid_math_bits_deBruijn64tab)] }
def FnSystemStillSaid : Prop := fnSystemStillRow.holds Tryd.pinned (OpenSpec.ofChange fnSystemStillSpec)

/-- ITS FALSE NEIGHBOUR: 'it returns false'. Refute it at one input. -/
def fnSystemStillWrong : ChangeSpec := { name := "fnSystemStill", fn := fun _ => fun
  | [d] => { results := [.lit (.bool false)], args := [d] }
  | _ => none }
def FnSystemStillWrongFalsely : Prop := fnSystemStillRow.holds Tryd.pinned (OpenSpec.ofChange fnSystemStillWrong)

/-- 'laws.FnRunBegins': WHATEVER THE INPUT: true; the input reads as it did. -/
def fnRunBeginsSpec : ChangeSpec := { name := "fnRunBegins", fn := fun _ => fun
  | [d] => { results := [.lit (.bool true)], args := [d] }
  | _ => none }
def fnRunBeginsRow : OpenClaim := { program := "ytknhgfmjchfnjaadoor", sum := "1fc3059804c5473f63a73e2659cc38195ad09b40e0e60738993fc884d7587d0d", func := "loop.example/assumeguarantee/laws.FnRunBegins", spec := "fnRunBegins", recurses := true, named := ["math/bits.deBruijn32tab", "math/bits.deBruijn64tab"], apart := false, laid := [("math/bits.deBruijn32tab", laid_math_bits_deBruijn32tab), ("math/bits.deBruijn64tab", laid_math_bits_deBruijn64tab)] }
def FnRunBeginsSaid : Prop := fnRunBeginsRow.holds Tryd.pinned (OpenSpec.ofChange fnRunBeginsSpec)

/-- ITS FALSE NEIGHBOUR: 'it returns false'. Refute it at one input. -/
def fnRunBeginsWrong : ChangeSpec := { name := "fnRunBegins", fn := fun _ => fun
  | [d] => { results := [.lit (.bool false)], args := [d] }
  | _ => none }
def FnRunBeginsWrongFalsely : Prop := fnRunBeginsRow.holds Tryd.pinned (OpenSpec.ofChange fnRunBeginsWrong)

/-- 'laws.FnRunOf': WHATEVER THE INPUT: true; the input reads as it did. -/
def fnRunOfSpec : ChangeSpec := { name := "fnRunOf", fn := fun _ => fun
  | [d] => { results := [.lit (.bool true)], args := [d] }
  | _ => none }
def fnRunOfRow : OpenClaim := { program := "ytknhgfmjchfnjaadoor", sum := "1fc3059804c5473f63a73e2659cc38195ad09b40e0e60738993fc884d7587d0d", func := "loop.example/assumeguarantee/laws.FnRunOf", spec := "fnRunOf", recurses := true, named := ["math/bits.deBruijn32tab", "math/bits.deBruijn64tab"], apart := false, laid := [("math/bits.deBruijn32tab", laid_math_bits_deBruijn32tab), ("math/bits.deBruijn64tab", laid_math_bits_deBruijn64tab)] }
def FnRunOfSaid : Prop := fnRunOfRow.holds Tryd.pinned (OpenSpec.ofChange fnRunOfSpec)

/-- ITS FALSE NEIGHBOUR: 'it returns false'. Refute it at one input. -/
def fnRunOfWrong : ChangeSpec := { name := "fnRunOf", fn := fun _ => fun
  | [d] => { results := [.lit (.bool false)], args := [d] }
  | _ => none }
def FnRunOfWrongFalsely : Prop := fnRunOfRow.holds Tryd.pinned (OpenSpec.ofChange fnRunOfWrong)

/- THE SECOND FORM. 'bulk': how many values and letters a reading holds, each counted each time it is reached (what is shared counts as often as it is met; a slice's spare places count too). A statement '..UptoSaid' is the law's where the arguments, and the package variables that the reading takes, are together of bulk at most 1048576: NARROWER than '..Said'. Prove '..Said' where nothing that the law and all that it calls make is longer than what came in: it says more and counts as full. Else prove '..UptoSaid'. A law counts once. -/
mutual
def uptoBulk {H : Type} : DataW H → Nat
  | .lit (.string bytes) => bytes.length + 1
  | .lit _ => 1
  | .nil => 1
  | .ptr d => uptoBulk d + 1
  | .slice elems spare => uptoBulkAll elems + uptoBulkAll spare + 1
  | .agg parts => uptoBulkAll parts + 1
  | .iface _ d => uptoBulk d + 1
  | .map entries => uptoBulkEntries entries + 1
  | .held _ => 1
def uptoBulkAll {H : Type} : List (DataW H) → Nat
  | [] => 0
  | d :: r => uptoBulk d + uptoBulkAll r
def uptoBulkEntries {H : Type} : List (Lit × DataW H) → Nat
  | [] => 0
  | x :: r => uptoBulkEntry x + uptoBulkEntries r
def uptoBulkEntry {H : Type} : Lit × DataW H → Nat
  | (.string bytes, d) => bytes.length + uptoBulk d + 1
  | (_, d) => uptoBulk d + 1
 end
def uptoSmall : (H : Type) → List (DataW H) → Bool := fun _ ds => decide (uptoBulkAll ds ≤ 1048576)
def OpenSpec.upto (s : _root_.Go.ChangeSpec) : _root_.Go.OpenSpec := { _root_.Go.OpenSpec.ofChange s with cond := some uptoSmall }

/-- 'laws.FnTrimTraces', WHERE WHAT IT READS IS OF BULK AT MOST 1048576: true; the input reads as it did. -/
def fnTrimTracesUptoRow : OpenClaim := { program := "ytknhgfmjchfnjaadoor", sum := "1fc3059804c5473f63a73e2659cc38195ad09b40e0e60738993fc884d7587d0d", func := "loop.example/assumeguarantee/laws.FnTrimTraces", spec := "fnTrimTraces", recurses := true, named := ["math/bits.deBruijn32tab", "math/bits.deBruijn64tab"], apart := false, laid := [("math/bits.deBruijn32tab", laid_math_bits_deBruijn32tab), ("math/bits.deBruijn64tab", laid_math_bits_deBruijn64tab)], narrowed := true }
def FnTrimTracesUptoSaid : Prop := fnTrimTracesUptoRow.holds Tryd.pinned (OpenSpec.upto fnTrimTracesSpec)

/-- 'laws.FnTracesGrow', WHERE WHAT IT READS IS OF BULK AT MOST 1048576: true; the input reads as it did. -/
def fnTracesGrowUptoRow : OpenClaim := { program := "ytknhgfmjchfnjaadoor", sum := "1fc3059804c5473f63a73e2659cc38195ad09b40e0e60738993fc884d7587d0d", func := "loop.example/assumeguarantee/laws.FnTracesGrow", spec := "fnTracesGrow", recurses := true, named := ["math/bits.deBruijn32tab", "math/bits.deBruijn64tab"], apart := false, laid := [("math/bits.deBruijn32tab", laid_math_bits_deBruijn32tab), ("math/bits.deBruijn64tab", laid_math_bits_deBruijn64tab)], narrowed := true }
def FnTracesGrowUptoSaid : Prop := fnTracesGrowUptoRow.holds Tryd.pinned (OpenSpec.upto fnTracesGrowSpec)

/-- 'laws.FnTracesUpTo', WHERE WHAT IT READS IS OF BULK AT MOST 1048576: true; the input reads as it did. -/
def fnTracesUpToUptoRow : OpenClaim := { program := "ytknhgfmjchfnjaadoor", sum := "1fc3059804c5473f63a73e2659cc38195ad09b40e0e60738993fc884d7587d0d", func := "loop.example/assumeguarantee/laws.FnTracesUpTo", spec := "fnTracesUpTo", recurses := true, named := ["math/bits.deBruijn32tab", "math/bits.deBruijn64tab"], apart := false, laid := [("math/bits.deBruijn32tab", laid_math_bits_deBruijn32tab), ("math/bits.deBruijn64tab", laid_math_bits_deBruijn64tab)], narrowed := true }
def FnTracesUpToUptoSaid : Prop := fnTracesUpToUptoRow.holds Tryd.pinned (OpenSpec.upto fnTracesUpToSpec)

/-- 'laws.FnTrimTwice', WHERE WHAT IT READS IS OF BULK AT MOST 1048576: true; the input reads as it did. -/
def fnTrimTwiceUptoRow : OpenClaim := { program := "ytknhgfmjchfnjaadoor", sum := "1fc3059804c5473f63a73e2659cc38195ad09b40e0e60738993fc884d7587d0d", func := "loop.example/assumeguarantee/laws.FnTrimTwice", spec := "fnTrimTwice", recurses := true, named := ["math/bits.deBruijn32tab", "math/bits.deBruijn64tab"], apart := false, laid := [("math/bits.deBruijn32tab", laid_math_bits_deBruijn32tab), ("math/bits.deBruijn64tab", laid_math_bits_deBruijn64tab)], narrowed := true }
def FnTrimTwiceUptoSaid : Prop := fnTrimTwiceUptoRow.holds Tryd.pinned (OpenSpec.upto fnTrimTwiceSpec)

/-- 'laws.FnSystemStill', WHERE WHAT IT READS IS OF BULK AT MOST 1048576: true; the input reads as it did. -/
def fnSystemStillUptoRow : OpenClaim := { program := "ytknhgfmjchfnjaadoor", sum := "1fc3059804c5473f63a73e2659cc38195ad09b40e0e60738993fc884d7587d0d", func := "loop.example/assumeguarantee/laws.FnSystemStill", spec := "fnSystemStill", recurses := true, named := ["math/bits.deBruijn32tab", "math/bits.deBruijn64tab"], apart := false, laid := [("math/bits.deBruijn32tab", laid_math_bits_deBruijn32tab), ("math/bits.deBruijn64tab", laid_math_bits_deBruijn64tab)], narrowed := true }
def FnSystemStillUptoSaid : Prop := fnSystemStillUptoRow.holds Tryd.pinned (OpenSpec.upto fnSystemStillSpec)

/-- 'laws.FnRunBegins', WHERE WHAT IT READS IS OF BULK AT MOST 1048576: true; the input reads as it did. -/
def fnRunBeginsUptoRow : OpenClaim := { program := "ytknhgfmjchfnjaadoor", sum := "1fc3059804c5473f63a73e2659cc38195ad09b40e0e60738993fc884d7587d0d", func := "loop.example/assumeguarantee/laws.FnRunBegins", spec := "fnRunBegins", recurses := true, named := ["math/bits.deBruijn32tab", "math/bits.deBruijn64tab"], apart := false, laid := [("math/bits.deBruijn32tab", laid_math_bits_deBruijn32tab), ("math/bits.deBruijn64tab", laid_math_bits_deBruijn64tab)], narrowed := true }
def FnRunBeginsUptoSaid : Prop := fnRunBeginsUptoRow.holds Tryd.pinned (OpenSpec.upto fnRunBeginsSpec)

/-- 'laws.FnRunOf', WHERE WHAT IT READS IS OF BULK AT MOST 1048576: true; the input reads as it did. -/
def fnRunOfUptoRow : OpenClaim := { program := "ytknhgfmjchfnjaadoor", sum := "1fc3059804c5473f63a73e2659cc38195ad09b40e0e60738993fc884d7587d0d", func := "loop.example/assumeguarantee/laws.FnRunOf", spec := "fnRunOf", recurses := true, named := ["math/bits.deBruijn32tab", "math/bits.deBruijn64tab"], apart := false, laid := [("math/bits.deBruijn32tab", laid_math_bits_deBruijn32tab), ("math/bits.deBruijn64tab", laid_math_bits_deBruijn64tab)], narrowed := true }
def FnRunOfUptoSaid : Prop := fnRunOfUptoRow.holds Tryd.pinned (OpenSpec.upto fnRunOfSpec)

end Rows
end Go.Proofs.YtknhgfmjchfnjaaDoor
