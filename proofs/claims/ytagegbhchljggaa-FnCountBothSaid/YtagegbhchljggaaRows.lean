/-
  No cell of these rows narrows 'for every input' (looked for: loops, veiled, ifaces, maps, wideKeys, modest, calm, conditions, laid).
  DERIVED. THE GIVEN ROWS OF THIS SEAT. 9 by the template 'for every input the law returns true; each argument reads behind the call as it read before'; 0 by the template 'total and deterministic' (their statements: YtagegbhchljggaaTotals.lean).
  GIVEN WITH THE SEED: the statements are not yours to turn. If you find one false, say at which input.
  Laid BY PROGRAM, IN A SANDBOX (cutbox-rows.mjs): the forced cells as the released guide's own fill.sh prints them over the translation c19994c14855654e… (all of the seat's roots in one cut). By AI agents, Wed Nov 11 2026. No macro, syntax, notation, axiom, sorry.
-/
import Derived.Test.YtagegbhchljggaaChecked
import GoSem.Claim
import GoSem.ClaimJoined
import GoSem.ClaimMapViews
import Derived.JoinedTies
import Derived.KernelRfl
namespace Go.Proofs.Ytagegbhchljggaa
/- THE CELL 'sum', in the pinned program and in every row, IS THE sha256 OF THE DUMP (.gsa) THAT YtagegbhchljggaaProg.lean LOADS. Nothing in Lean hashes anything: it is a label: what it is worth is what the hold of that sum in a sandbox is worth. -/
noncomputable def Try.pinned : Pinned := { name := "ytagegbhchljggaa", sum := "c19994c14855654e2892ce1076cca5faa930149a8d9c7bf43cd350c6a8469465", checked := Try.checked }
namespace Rows
def none {H : Type} : Left H := { results := [], args := [] }

/-- 'laws.FnExactAutomatonValid': WHATEVER THE INPUT: true; the input reads as it did. -/
def fnExactAutomatonValidSpec : ChangeSpec := { name := "fnExactAutomatonValid", fn := fun _ => fun
  | [d] => { results := [.lit (.bool true)], args := [d] }
  | _ => none }
def fnExactAutomatonValidRow : OpenClaim := { program := "ytagegbhchljggaa", sum := "c19994c14855654e2892ce1076cca5faa930149a8d9c7bf43cd350c6a8469465", func := "loop.example/assumeguarantee/laws.FnExactAutomatonValid", spec := "fnExactAutomatonValid", apart := false }
def FnExactAutomatonValidSaid : Prop := fnExactAutomatonValidRow.holds Try.pinned (OpenSpec.ofChange fnExactAutomatonValidSpec)

/-- ITS FALSE NEIGHBOUR: 'it returns false'. Refute it at one input. -/
def fnExactAutomatonValidWrong : ChangeSpec := { name := "fnExactAutomatonValid", fn := fun _ => fun
  | [d] => { results := [.lit (.bool false)], args := [d] }
  | _ => none }
def FnExactAutomatonValidWrongFalsely : Prop := fnExactAutomatonValidRow.holds Try.pinned (OpenSpec.ofChange fnExactAutomatonValidWrong)

/-- 'laws.FnExactCountAccepted': WHATEVER THE INPUT: true; the input reads as it did. -/
def fnExactCountAcceptedSpec : ChangeSpec := { name := "fnExactCountAccepted", fn := fun _ => fun
  | [d1, d2] => { results := [.lit (.bool true)], args := [d1, d2] }
  | _ => none }
def fnExactCountAcceptedRow : OpenClaim := { program := "ytagegbhchljggaa", sum := "c19994c14855654e2892ce1076cca5faa930149a8d9c7bf43cd350c6a8469465", func := "loop.example/assumeguarantee/laws.FnExactCountAccepted", spec := "fnExactCountAccepted", apart := false }
def FnExactCountAcceptedSaid : Prop := fnExactCountAcceptedRow.holds Try.pinned (OpenSpec.ofChange fnExactCountAcceptedSpec)

/-- ITS FALSE NEIGHBOUR: 'it returns false'. Refute it at one input. -/
def fnExactCountAcceptedWrong : ChangeSpec := { name := "fnExactCountAccepted", fn := fun _ => fun
  | [d1, d2] => { results := [.lit (.bool false)], args := [d1, d2] }
  | _ => none }
def FnExactCountAcceptedWrongFalsely : Prop := fnExactCountAcceptedRow.holds Try.pinned (OpenSpec.ofChange fnExactCountAcceptedWrong)

/-- 'laws.FnExactStateAfter': WHATEVER THE INPUT: true; the input reads as it did. -/
def fnExactStateAfterSpec : ChangeSpec := { name := "fnExactStateAfter", fn := fun _ => fun
  | [d1, d2] => { results := [.lit (.bool true)], args := [d1, d2] }
  | _ => none }
def fnExactStateAfterRow : OpenClaim := { program := "ytagegbhchljggaa", sum := "c19994c14855654e2892ce1076cca5faa930149a8d9c7bf43cd350c6a8469465", func := "loop.example/assumeguarantee/laws.FnExactStateAfter", spec := "fnExactStateAfter", apart := false }
def FnExactStateAfterSaid : Prop := fnExactStateAfterRow.holds Try.pinned (OpenSpec.ofChange fnExactStateAfterSpec)

/-- ITS FALSE NEIGHBOUR: 'it returns false'. Refute it at one input. -/
def fnExactStateAfterWrong : ChangeSpec := { name := "fnExactStateAfter", fn := fun _ => fun
  | [d1, d2] => { results := [.lit (.bool false)], args := [d1, d2] }
  | _ => none }
def FnExactStateAfterWrongFalsely : Prop := fnExactStateAfterRow.holds Try.pinned (OpenSpec.ofChange fnExactStateAfterWrong)

/-- 'laws.FnExactAcceptsWord': WHATEVER THE INPUT: true; the input reads as it did. -/
def fnExactAcceptsWordSpec : ChangeSpec := { name := "fnExactAcceptsWord", fn := fun _ => fun
  | [d1, d2] => { results := [.lit (.bool true)], args := [d1, d2] }
  | _ => none }
def fnExactAcceptsWordRow : OpenClaim := { program := "ytagegbhchljggaa", sum := "c19994c14855654e2892ce1076cca5faa930149a8d9c7bf43cd350c6a8469465", func := "loop.example/assumeguarantee/laws.FnExactAcceptsWord", spec := "fnExactAcceptsWord", apart := false }
def FnExactAcceptsWordSaid : Prop := fnExactAcceptsWordRow.holds Try.pinned (OpenSpec.ofChange fnExactAcceptsWordSpec)

/-- ITS FALSE NEIGHBOUR: 'it returns false'. Refute it at one input. -/
def fnExactAcceptsWordWrong : ChangeSpec := { name := "fnExactAcceptsWord", fn := fun _ => fun
  | [d1, d2] => { results := [.lit (.bool false)], args := [d1, d2] }
  | _ => none }
def FnExactAcceptsWordWrongFalsely : Prop := fnExactAcceptsWordRow.holds Try.pinned (OpenSpec.ofChange fnExactAcceptsWordWrong)

/-- 'laws.FnExactComplementAutomaton': WHATEVER THE INPUT: true; the input reads as it did. -/
def fnExactComplementAutomatonSpec : ChangeSpec := { name := "fnExactComplementAutomaton", fn := fun _ => fun
  | [d] => { results := [.lit (.bool true)], args := [d] }
  | _ => none }
def fnExactComplementAutomatonRow : OpenClaim := { program := "ytagegbhchljggaa", sum := "c19994c14855654e2892ce1076cca5faa930149a8d9c7bf43cd350c6a8469465", func := "loop.example/assumeguarantee/laws.FnExactComplementAutomaton", spec := "fnExactComplementAutomaton", apart := false }
def FnExactComplementAutomatonSaid : Prop := fnExactComplementAutomatonRow.holds Try.pinned (OpenSpec.ofChange fnExactComplementAutomatonSpec)

/-- ITS FALSE NEIGHBOUR: 'it returns false'. Refute it at one input. -/
def fnExactComplementAutomatonWrong : ChangeSpec := { name := "fnExactComplementAutomaton", fn := fun _ => fun
  | [d] => { results := [.lit (.bool false)], args := [d] }
  | _ => none }
def FnExactComplementAutomatonWrongFalsely : Prop := fnExactComplementAutomatonRow.holds Try.pinned (OpenSpec.ofChange fnExactComplementAutomatonWrong)

/-- 'laws.FnExactSafetyPart': WHATEVER THE INPUT: true; the input reads as it did. -/
def fnExactSafetyPartSpec : ChangeSpec := { name := "fnExactSafetyPart", fn := fun _ => fun
  | [d] => { results := [.lit (.bool true)], args := [d] }
  | _ => none }
def fnExactSafetyPartRow : OpenClaim := { program := "ytagegbhchljggaa", sum := "c19994c14855654e2892ce1076cca5faa930149a8d9c7bf43cd350c6a8469465", func := "loop.example/assumeguarantee/laws.FnExactSafetyPart", spec := "fnExactSafetyPart", apart := false }
def FnExactSafetyPartSaid : Prop := fnExactSafetyPartRow.holds Try.pinned (OpenSpec.ofChange fnExactSafetyPartSpec)

/-- ITS FALSE NEIGHBOUR: 'it returns false'. Refute it at one input. -/
def fnExactSafetyPartWrong : ChangeSpec := { name := "fnExactSafetyPart", fn := fun _ => fun
  | [d] => { results := [.lit (.bool false)], args := [d] }
  | _ => none }
def FnExactSafetyPartWrongFalsely : Prop := fnExactSafetyPartRow.holds Try.pinned (OpenSpec.ofChange fnExactSafetyPartWrong)

/-- 'laws.FnExactExtendAutomaton': WHATEVER THE INPUT: true; the input reads as it did. -/
def fnExactExtendAutomatonSpec : ChangeSpec := { name := "fnExactExtendAutomaton", fn := fun _ => fun
  | [d1, d2] => { results := [.lit (.bool true)], args := [d1, d2] }
  | _ => none }
def fnExactExtendAutomatonRow : OpenClaim := { program := "ytagegbhchljggaa", sum := "c19994c14855654e2892ce1076cca5faa930149a8d9c7bf43cd350c6a8469465", func := "loop.example/assumeguarantee/laws.FnExactExtendAutomaton", spec := "fnExactExtendAutomaton", apart := false }
def FnExactExtendAutomatonSaid : Prop := fnExactExtendAutomatonRow.holds Try.pinned (OpenSpec.ofChange fnExactExtendAutomatonSpec)

/-- ITS FALSE NEIGHBOUR: 'it returns false'. Refute it at one input. -/
def fnExactExtendAutomatonWrong : ChangeSpec := { name := "fnExactExtendAutomaton", fn := fun _ => fun
  | [d1, d2] => { results := [.lit (.bool false)], args := [d1, d2] }
  | _ => none }
def FnExactExtendAutomatonWrongFalsely : Prop := fnExactExtendAutomatonRow.holds Try.pinned (OpenSpec.ofChange fnExactExtendAutomatonWrong)

/-- 'laws.FnCountGrows': WHATEVER THE INPUT: true; the input reads as it did. -/
def fnCountGrowsSpec : ChangeSpec := { name := "fnCountGrows", fn := fun _ => fun
  | [d] => { results := [.lit (.bool true)], args := [d] }
  | _ => none }
def fnCountGrowsRow : OpenClaim := { program := "ytagegbhchljggaa", sum := "c19994c14855654e2892ce1076cca5faa930149a8d9c7bf43cd350c6a8469465", func := "loop.example/assumeguarantee/laws.FnCountGrows", spec := "fnCountGrows", recurses := true, apart := false }
def FnCountGrowsSaid : Prop := fnCountGrowsRow.holds Try.pinned (OpenSpec.ofChange fnCountGrowsSpec)

/-- ITS FALSE NEIGHBOUR: 'it returns false'. Refute it at one input. -/
def fnCountGrowsWrong : ChangeSpec := { name := "fnCountGrows", fn := fun _ => fun
  | [d] => { results := [.lit (.bool false)], args := [d] }
  | _ => none }
def FnCountGrowsWrongFalsely : Prop := fnCountGrowsRow.holds Try.pinned (OpenSpec.ofChange fnCountGrowsWrong)

/-- 'laws.FnCountBoth': WHATEVER THE INPUT: true; the input reads as it did. -/
def fnCountBothSpec : ChangeSpec := { name := "fnCountBoth", fn := fun _ => fun
  | [d] => { results := [.lit (.bool true)], args := [d] }
  | _ => none }
def fnCountBothRow : OpenClaim := { program := "ytagegbhchljggaa", sum := "c19994c14855654e2892ce1076cca5faa930149a8d9c7bf43cd350c6a8469465", func := "loop.example/assumeguarantee/laws.FnCountBoth", spec := "fnCountBoth", recurses := true, apart := false }
def FnCountBothSaid : Prop := fnCountBothRow.holds Try.pinned (OpenSpec.ofChange fnCountBothSpec)

/-- ITS FALSE NEIGHBOUR: 'it returns false'. Refute it at one input. -/
def fnCountBothWrong : ChangeSpec := { name := "fnCountBoth", fn := fun _ => fun
  | [d] => { results := [.lit (.bool false)], args := [d] }
  | _ => none }
def FnCountBothWrongFalsely : Prop := fnCountBothRow.holds Try.pinned (OpenSpec.ofChange fnCountBothWrong)

/- THE SECOND FORM. 'bulk': how many values and letters a reading holds, each counted each time it is reached (what is shared counts as often as it is met; a slice's spare places count too). A statement '..UptoSaid' is the law's where the arguments, and the package variables that the reading takes, are together of bulk at most 1048576: NARROWER than '..Said'. Prove '..Said' where nothing that the law and all that it calls make is longer than what came in: it says more and counts as full. Else prove '..UptoSaid'. A law counts once. -/
mutual
def uptoBulk {H : Type} : DataW H → Nat
  | .lit (.string bytes) => bytes.length + 1
  | .lit _ => 1
  | .nil => 1
  | .ptr d => uptoBulk d + 1
  | .slice elems spare => uptoBulkAll elems + uptoBulkAll spare + 1
  | .agg parts => uptoBulkAll parts + 1
  | .iface _ d => uptoBulk d + 1
  | .map entries => uptoBulkEntries entries + 1
  | .held _ => 1
def uptoBulkAll {H : Type} : List (DataW H) → Nat
  | [] => 0
  | d :: r => uptoBulk d + uptoBulkAll r
def uptoBulkEntries {H : Type} : List (Lit × DataW H) → Nat
  | [] => 0
  | x :: r => uptoBulkEntry x + uptoBulkEntries r
def uptoBulkEntry {H : Type} : Lit × DataW H → Nat
  | (.string bytes, d) => bytes.length + uptoBulk d + 1
  | (_, d) => uptoBulk d + 1
 end
def uptoSmall : (H : Type) → List (DataW H) → Bool := fun _ ds => decide (uptoBulkAll ds ≤ 1048576)
def OpenSpec.upto (s : _root_.Go.ChangeSpec) : _root_.Go.OpenSpec := { _root_.Go.OpenSpec.ofChange s with cond := some uptoSmall }

/-- 'laws.FnExactAutomatonValid', WHERE WHAT IT READS IS OF BULK AT MOST 1048576: true; the input reads as it did. -/
def fnExactAutomatonValidUptoRow : OpenClaim := { program := "ytagegbhchljggaa", sum := "c19994c14855654e2892ce1076cca5faa930149a8d9c7bf43cd350c6a8469465", func := "loop.example/assumeguarantee/laws.FnExactAutomatonValid", spec := "fnExactAutomatonValid", apart := false, narrowed := true }
def FnExactAutomatonValidUptoSaid : Prop := fnExactAutomatonValidUptoRow.holds Try.pinned (OpenSpec.upto fnExactAutomatonValidSpec)

/-- 'laws.FnExactCountAccepted', WHERE WHAT IT READS IS OF BULK AT MOST 1048576: true; the input reads as it did. -/
def fnExactCountAcceptedUptoRow : OpenClaim := { program := "ytagegbhchljggaa", sum := "c19994c14855654e2892ce1076cca5faa930149a8d9c7bf43cd350c6a8469465", func := "loop.example/assumeguarantee/laws.FnExactCountAccepted", spec := "fnExactCountAccepted", apart := false, narrowed := true }
def FnExactCountAcceptedUptoSaid : Prop := fnExactCountAcceptedUptoRow.holds Try.pinned (OpenSpec.upto fnExactCountAcceptedSpec)

/-- 'laws.FnExactStateAfter', WHERE WHAT IT READS IS OF BULK AT MOST 1048576: true; the input reads as it did. -/
def fnExactStateAfterUptoRow : OpenClaim := { program := "ytagegbhchljggaa", sum := "c19994c14855654e2892ce1076cca5faa930149a8d9c7bf43cd350c6a8469465", func := "loop.example/assumeguarantee/laws.FnExactStateAfter", spec := "fnExactStateAfter", apart := false, narrowed := true }
def FnExactStateAfterUptoSaid : Prop := fnExactStateAfterUptoRow.holds Try.pinned (OpenSpec.upto fnExactStateAfterSpec)

/-- 'laws.FnExactAcceptsWord', WHERE WHAT IT READS IS OF BULK AT MOST 1048576: true; the input reads as it did. -/
def fnExactAcceptsWordUptoRow : OpenClaim := { program := "ytagegbhchljggaa", sum := "c19994c14855654e2892ce1076cca5faa930149a8d9c7bf43cd350c6a8469465", func := "loop.example/assumeguarantee/laws.FnExactAcceptsWord", spec := "fnExactAcceptsWord", apart := false, narrowed := true }
def FnExactAcceptsWordUptoSaid : Prop := fnExactAcceptsWordUptoRow.holds Try.pinned (OpenSpec.upto fnExactAcceptsWordSpec)

/-- 'laws.FnExactComplementAutomaton', WHERE WHAT IT READS IS OF BULK AT MOST 1048576: true; the input reads as it did. -/
def fnExactComplementAutomatonUptoRow : OpenClaim := { program := "ytagegbhchljggaa", sum := "c19994c14855654e2892ce1076cca5faa930149a8d9c7bf43cd350c6a8469465", func := "loop.example/assumeguarantee/laws.FnExactComplementAutomaton", spec := "fnExactComplementAutomaton", apart := false, narrowed := true }
def FnExactComplementAutomatonUptoSaid : Prop := fnExactComplementAutomatonUptoRow.holds Try.pinned (OpenSpec.upto fnExactComplementAutomatonSpec)

/-- 'laws.FnExactSafetyPart', WHERE WHAT IT READS IS OF BULK AT MOST 1048576: true; the input reads as it did. -/
def fnExactSafetyPartUptoRow : OpenClaim := { program := "ytagegbhchljggaa", sum := "c19994c14855654e2892ce1076cca5faa930149a8d9c7bf43cd350c6a8469465", func := "loop.example/assumeguarantee/laws.FnExactSafetyPart", spec := "fnExactSafetyPart", apart := false, narrowed := true }
def FnExactSafetyPartUptoSaid : Prop := fnExactSafetyPartUptoRow.holds Try.pinned (OpenSpec.upto fnExactSafetyPartSpec)

/-- 'laws.FnExactExtendAutomaton', WHERE WHAT IT READS IS OF BULK AT MOST 1048576: true; the input reads as it did. -/
def fnExactExtendAutomatonUptoRow : OpenClaim := { program := "ytagegbhchljggaa", sum := "c19994c14855654e2892ce1076cca5faa930149a8d9c7bf43cd350c6a8469465", func := "loop.example/assumeguarantee/laws.FnExactExtendAutomaton", spec := "fnExactExtendAutomaton", apart := false, narrowed := true }
def FnExactExtendAutomatonUptoSaid : Prop := fnExactExtendAutomatonUptoRow.holds Try.pinned (OpenSpec.upto fnExactExtendAutomatonSpec)

/-- 'laws.FnCountGrows', WHERE WHAT IT READS IS OF BULK AT MOST 1048576: true; the input reads as it did. -/
def fnCountGrowsUptoRow : OpenClaim := { program := "ytagegbhchljggaa", sum := "c19994c14855654e2892ce1076cca5faa930149a8d9c7bf43cd350c6a8469465", func := "loop.example/assumeguarantee/laws.FnCountGrows", spec := "fnCountGrows", recurses := true, apart := false, narrowed := true }
def FnCountGrowsUptoSaid : Prop := fnCountGrowsUptoRow.holds Try.pinned (OpenSpec.upto fnCountGrowsSpec)

/-- 'laws.FnCountBoth', WHERE WHAT IT READS IS OF BULK AT MOST 1048576: true; the input reads as it did. -/
def fnCountBothUptoRow : OpenClaim := { program := "ytagegbhchljggaa", sum := "c19994c14855654e2892ce1076cca5faa930149a8d9c7bf43cd350c6a8469465", func := "loop.example/assumeguarantee/laws.FnCountBoth", spec := "fnCountBoth", recurses := true, apart := false, narrowed := true }
def FnCountBothUptoSaid : Prop := fnCountBothUptoRow.holds Try.pinned (OpenSpec.upto fnCountBothSpec)

end Rows
end Go.Proofs.Ytagegbhchljggaa
