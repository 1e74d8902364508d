/-
  No cell of these rows narrows 'for every input' (looked for: loops, veiled, ifaces, maps, wideKeys, modest, calm, conditions, laid).
  DERIVED. THE GIVEN ROWS OF THIS SEAT. 17 by the template 'for every input the law returns true; each argument reads behind the call as it read before'; 0 by the template 'total and deterministic' (their statements: YtkgbdglfpnmlgaaTotals.lean).
  GIVEN WITH THE SEED: the statements are not yours to turn. If you find one false, say at which input.
  Laid BY PROGRAM, IN A SANDBOX (cutbox-rows.mjs): the forced cells as the released guide's own fill.sh prints them over the translation ce7c9b79e53a5ac1… (all of the seat's roots in one cut). By AI agents, Wed Nov 11 2026. No macro, syntax, notation, axiom, sorry.
-/
import Derived.Test.YtkgbdglfpnmlgaaChecked
import GoSem.Claim
import GoSem.ClaimJoined
import GoSem.ClaimMapViews
import Derived.JoinedTies
import Derived.KernelRfl
namespace Go.Proofs.Ytkgbdglfpnmlgaa
/- THE CELL 'sum', in the pinned program and in every row, IS THE sha256 OF THE DUMP (.gsa) THAT YtkgbdglfpnmlgaaProg.lean LOADS. Nothing in Lean hashes anything: it is a label: what it is worth is what the hold of that sum in a sandbox is worth. -/
noncomputable def Try.pinned : Pinned := { name := "ytkgbdglfpnmlgaa", sum := "ce7c9b79e53a5ac11d67ea16b99cb023b9e3db4a4a23a0a9b4963de425995b27", checked := Try.checked }
namespace Rows
def none {H : Type} : Left H := { results := [], args := [] }

/-- 'laws.FnAlphabetText': WHATEVER THE INPUT: true; the input reads as it did. -/
def fnAlphabetTextSpec : ChangeSpec := { name := "fnAlphabetText", fn := fun _ => fun
  | [d1, d2] => { results := [.lit (.bool true)], args := [d1, d2] }
  | _ => none }
def fnAlphabetTextRow : OpenClaim := { program := "ytkgbdglfpnmlgaa", sum := "ce7c9b79e53a5ac11d67ea16b99cb023b9e3db4a4a23a0a9b4963de425995b27", func := "loop.example/assumeguarantee/laws.FnAlphabetText", spec := "fnAlphabetText", apart := false }
def FnAlphabetTextSaid : Prop := fnAlphabetTextRow.holds Try.pinned (OpenSpec.ofChange fnAlphabetTextSpec)

/-- ITS FALSE NEIGHBOUR: 'it returns false'. Refute it at one input. -/
def fnAlphabetTextWrong : ChangeSpec := { name := "fnAlphabetText", fn := fun _ => fun
  | [d1, d2] => { results := [.lit (.bool false)], args := [d1, d2] }
  | _ => none }
def FnAlphabetTextWrongFalsely : Prop := fnAlphabetTextRow.holds Try.pinned (OpenSpec.ofChange fnAlphabetTextWrong)

/-- 'laws.FnAlphabetOf': WHATEVER THE INPUT: true; the input reads as it did. -/
def fnAlphabetOfSpec : ChangeSpec := { name := "fnAlphabetOf", fn := fun _ => fun
  | [d] => { results := [.lit (.bool true)], args := [d] }
  | _ => none }
def fnAlphabetOfRow : OpenClaim := { program := "ytkgbdglfpnmlgaa", sum := "ce7c9b79e53a5ac11d67ea16b99cb023b9e3db4a4a23a0a9b4963de425995b27", func := "loop.example/assumeguarantee/laws.FnAlphabetOf", spec := "fnAlphabetOf", apart := false }
def FnAlphabetOfSaid : Prop := fnAlphabetOfRow.holds Try.pinned (OpenSpec.ofChange fnAlphabetOfSpec)

/-- ITS FALSE NEIGHBOUR: 'it returns false'. Refute it at one input. -/
def fnAlphabetOfWrong : ChangeSpec := { name := "fnAlphabetOf", fn := fun _ => fun
  | [d] => { results := [.lit (.bool false)], args := [d] }
  | _ => none }
def FnAlphabetOfWrongFalsely : Prop := fnAlphabetOfRow.holds Try.pinned (OpenSpec.ofChange fnAlphabetOfWrong)

/-- 'laws.FnWordAt': WHATEVER THE INPUT: true; the input reads as it did. -/
def fnWordAtSpec : ChangeSpec := { name := "fnWordAt", fn := fun _ => fun
  | [d] => { results := [.lit (.bool true)], args := [d] }
  | _ => none }
def fnWordAtRow : OpenClaim := { program := "ytkgbdglfpnmlgaa", sum := "ce7c9b79e53a5ac11d67ea16b99cb023b9e3db4a4a23a0a9b4963de425995b27", func := "loop.example/assumeguarantee/laws.FnWordAt", spec := "fnWordAt", apart := false }
def FnWordAtSaid : Prop := fnWordAtRow.holds Try.pinned (OpenSpec.ofChange fnWordAtSpec)

/-- ITS FALSE NEIGHBOUR: 'it returns false'. Refute it at one input. -/
def fnWordAtWrong : ChangeSpec := { name := "fnWordAt", fn := fun _ => fun
  | [d] => { results := [.lit (.bool false)], args := [d] }
  | _ => none }
def FnWordAtWrongFalsely : Prop := fnWordAtRow.holds Try.pinned (OpenSpec.ofChange fnWordAtWrong)

/-- 'laws.FnRestrictSides': WHATEVER THE INPUT: true; the input reads as it did. -/
def fnRestrictSidesSpec : ChangeSpec := { name := "fnRestrictSides", fn := fun _ => fun
  | [d] => { results := [.lit (.bool true)], args := [d] }
  | _ => none }
def fnRestrictSidesRow : OpenClaim := { program := "ytkgbdglfpnmlgaa", sum := "ce7c9b79e53a5ac11d67ea16b99cb023b9e3db4a4a23a0a9b4963de425995b27", func := "loop.example/assumeguarantee/laws.FnRestrictSides", spec := "fnRestrictSides", apart := false }
def FnRestrictSidesSaid : Prop := fnRestrictSidesRow.holds Try.pinned (OpenSpec.ofChange fnRestrictSidesSpec)

/-- ITS FALSE NEIGHBOUR: 'it returns false'. Refute it at one input. -/
def fnRestrictSidesWrong : ChangeSpec := { name := "fnRestrictSides", fn := fun _ => fun
  | [d] => { results := [.lit (.bool false)], args := [d] }
  | _ => none }
def FnRestrictSidesWrongFalsely : Prop := fnRestrictSidesRow.holds Try.pinned (OpenSpec.ofChange fnRestrictSidesWrong)

/-- 'laws.FnRestrictTwice': WHATEVER THE INPUT: true; the input reads as it did. -/
def fnRestrictTwiceSpec : ChangeSpec := { name := "fnRestrictTwice", fn := fun _ => fun
  | [d] => { results := [.lit (.bool true)], args := [d] }
  | _ => none }
def fnRestrictTwiceRow : OpenClaim := { program := "ytkgbdglfpnmlgaa", sum := "ce7c9b79e53a5ac11d67ea16b99cb023b9e3db4a4a23a0a9b4963de425995b27", func := "loop.example/assumeguarantee/laws.FnRestrictTwice", spec := "fnRestrictTwice", apart := false }
def FnRestrictTwiceSaid : Prop := fnRestrictTwiceRow.holds Try.pinned (OpenSpec.ofChange fnRestrictTwiceSpec)

/-- ITS FALSE NEIGHBOUR: 'it returns false'. Refute it at one input. -/
def fnRestrictTwiceWrong : ChangeSpec := { name := "fnRestrictTwice", fn := fun _ => fun
  | [d] => { results := [.lit (.bool false)], args := [d] }
  | _ => none }
def FnRestrictTwiceWrongFalsely : Prop := fnRestrictTwiceRow.holds Try.pinned (OpenSpec.ofChange fnRestrictTwiceWrong)

/-- 'laws.FnWordSteps': WHATEVER THE INPUT: true; the input reads as it did. -/
def fnWordStepsSpec : ChangeSpec := { name := "fnWordSteps", fn := fun _ => fun
  | [d] => { results := [.lit (.bool true)], args := [d] }
  | _ => none }
def fnWordStepsRow : OpenClaim := { program := "ytkgbdglfpnmlgaa", sum := "ce7c9b79e53a5ac11d67ea16b99cb023b9e3db4a4a23a0a9b4963de425995b27", func := "loop.example/assumeguarantee/laws.FnWordSteps", spec := "fnWordSteps", apart := false }
def FnWordStepsSaid : Prop := fnWordStepsRow.holds Try.pinned (OpenSpec.ofChange fnWordStepsSpec)

/-- ITS FALSE NEIGHBOUR: 'it returns false'. Refute it at one input. -/
def fnWordStepsWrong : ChangeSpec := { name := "fnWordSteps", fn := fun _ => fun
  | [d] => { results := [.lit (.bool false)], args := [d] }
  | _ => none }
def FnWordStepsWrongFalsely : Prop := fnWordStepsRow.holds Try.pinned (OpenSpec.ofChange fnWordStepsWrong)

/-- 'laws.FnRestrictJoin': WHATEVER THE INPUT: true; the input reads as it did. -/
def fnRestrictJoinSpec : ChangeSpec := { name := "fnRestrictJoin", fn := fun _ => fun
  | [d1, d2] => { results := [.lit (.bool true)], args := [d1, d2] }
  | _ => none }
def fnRestrictJoinRow : OpenClaim := { program := "ytkgbdglfpnmlgaa", sum := "ce7c9b79e53a5ac11d67ea16b99cb023b9e3db4a4a23a0a9b4963de425995b27", func := "loop.example/assumeguarantee/laws.FnRestrictJoin", spec := "fnRestrictJoin", apart := false }
def FnRestrictJoinSaid : Prop := fnRestrictJoinRow.holds Try.pinned (OpenSpec.ofChange fnRestrictJoinSpec)

/-- ITS FALSE NEIGHBOUR: 'it returns false'. Refute it at one input. -/
def fnRestrictJoinWrong : ChangeSpec := { name := "fnRestrictJoin", fn := fun _ => fun
  | [d1, d2] => { results := [.lit (.bool false)], args := [d1, d2] }
  | _ => none }
def FnRestrictJoinWrongFalsely : Prop := fnRestrictJoinRow.holds Try.pinned (OpenSpec.ofChange fnRestrictJoinWrong)

/-- 'laws.FnWordBehind': WHATEVER THE INPUT: true; the input reads as it did. -/
def fnWordBehindSpec : ChangeSpec := { name := "fnWordBehind", fn := fun _ => fun
  | [d] => { results := [.lit (.bool true)], args := [d] }
  | _ => none }
def fnWordBehindRow : OpenClaim := { program := "ytkgbdglfpnmlgaa", sum := "ce7c9b79e53a5ac11d67ea16b99cb023b9e3db4a4a23a0a9b4963de425995b27", func := "loop.example/assumeguarantee/laws.FnWordBehind", spec := "fnWordBehind", apart := false }
def FnWordBehindSaid : Prop := fnWordBehindRow.holds Try.pinned (OpenSpec.ofChange fnWordBehindSpec)

/-- ITS FALSE NEIGHBOUR: 'it returns false'. Refute it at one input. -/
def fnWordBehindWrong : ChangeSpec := { name := "fnWordBehind", fn := fun _ => fun
  | [d] => { results := [.lit (.bool false)], args := [d] }
  | _ => none }
def FnWordBehindWrongFalsely : Prop := fnWordBehindRow.holds Try.pinned (OpenSpec.ofChange fnWordBehindWrong)

/-- 'laws.FnWordOrder': WHATEVER THE INPUT: true; the input reads as it did. -/
def fnWordOrderSpec : ChangeSpec := { name := "fnWordOrder", fn := fun _ => fun
  | [d] => { results := [.lit (.bool true)], args := [d] }
  | _ => none }
def fnWordOrderRow : OpenClaim := { program := "ytkgbdglfpnmlgaa", sum := "ce7c9b79e53a5ac11d67ea16b99cb023b9e3db4a4a23a0a9b4963de425995b27", func := "loop.example/assumeguarantee/laws.FnWordOrder", spec := "fnWordOrder", apart := false }
def FnWordOrderSaid : Prop := fnWordOrderRow.holds Try.pinned (OpenSpec.ofChange fnWordOrderSpec)

/-- ITS FALSE NEIGHBOUR: 'it returns false'. Refute it at one input. -/
def fnWordOrderWrong : ChangeSpec := { name := "fnWordOrder", fn := fun _ => fun
  | [d] => { results := [.lit (.bool false)], args := [d] }
  | _ => none }
def FnWordOrderWrongFalsely : Prop := fnWordOrderRow.holds Try.pinned (OpenSpec.ofChange fnWordOrderWrong)

/-- 'laws.FnNumberOrder': WHATEVER THE INPUT: true; the input reads as it did. -/
def fnNumberOrderSpec : ChangeSpec := { name := "fnNumberOrder", fn := fun _ => fun
  | [d1, d2] => { results := [.lit (.bool true)], args := [d1, d2] }
  | _ => none }
def fnNumberOrderRow : OpenClaim := { program := "ytkgbdglfpnmlgaa", sum := "ce7c9b79e53a5ac11d67ea16b99cb023b9e3db4a4a23a0a9b4963de425995b27", func := "loop.example/assumeguarantee/laws.FnNumberOrder", spec := "fnNumberOrder", apart := false }
def FnNumberOrderSaid : Prop := fnNumberOrderRow.holds Try.pinned (OpenSpec.ofChange fnNumberOrderSpec)

/-- ITS FALSE NEIGHBOUR: 'it returns false'. Refute it at one input. -/
def fnNumberOrderWrong : ChangeSpec := { name := "fnNumberOrder", fn := fun _ => fun
  | [d1, d2] => { results := [.lit (.bool false)], args := [d1, d2] }
  | _ => none }
def FnNumberOrderWrongFalsely : Prop := fnNumberOrderRow.holds Try.pinned (OpenSpec.ofChange fnNumberOrderWrong)

/-- 'laws.FnWordNumber': WHATEVER THE INPUT: true; the input reads as it did. -/
def fnWordNumberSpec : ChangeSpec := { name := "fnWordNumber", fn := fun _ => fun
  | [d] => { results := [.lit (.bool true)], args := [d] }
  | _ => none }
def fnWordNumberRow : OpenClaim := { program := "ytkgbdglfpnmlgaa", sum := "ce7c9b79e53a5ac11d67ea16b99cb023b9e3db4a4a23a0a9b4963de425995b27", func := "loop.example/assumeguarantee/laws.FnWordNumber", spec := "fnWordNumber", apart := false }
def FnWordNumberSaid : Prop := fnWordNumberRow.holds Try.pinned (OpenSpec.ofChange fnWordNumberSpec)

/-- ITS FALSE NEIGHBOUR: 'it returns false'. Refute it at one input. -/
def fnWordNumberWrong : ChangeSpec := { name := "fnWordNumber", fn := fun _ => fun
  | [d] => { results := [.lit (.bool false)], args := [d] }
  | _ => none }
def FnWordNumberWrongFalsely : Prop := fnWordNumberRow.holds Try.pinned (OpenSpec.ofChange fnWordNumberWrong)

/-- 'laws.FnMergeLeast': WHATEVER THE INPUT: true; the input reads as it did. -/
def fnMergeLeastSpec : ChangeSpec := { name := "fnMergeLeast", fn := fun _ => fun
  | [d] => { results := [.lit (.bool true)], args := [d] }
  | _ => none }
def fnMergeLeastRow : OpenClaim := { program := "ytkgbdglfpnmlgaa", sum := "ce7c9b79e53a5ac11d67ea16b99cb023b9e3db4a4a23a0a9b4963de425995b27", func := "loop.example/assumeguarantee/laws.FnMergeLeast", spec := "fnMergeLeast", apart := false }
def FnMergeLeastSaid : Prop := fnMergeLeastRow.holds Try.pinned (OpenSpec.ofChange fnMergeLeastSpec)

/-- ITS FALSE NEIGHBOUR: 'it returns false'. Refute it at one input. -/
def fnMergeLeastWrong : ChangeSpec := { name := "fnMergeLeast", fn := fun _ => fun
  | [d] => { results := [.lit (.bool false)], args := [d] }
  | _ => none }
def FnMergeLeastWrongFalsely : Prop := fnMergeLeastRow.holds Try.pinned (OpenSpec.ofChange fnMergeLeastWrong)

/-- 'laws.FnMergeTurned': WHATEVER THE INPUT: true; the input reads as it did. -/
def fnMergeTurnedSpec : ChangeSpec := { name := "fnMergeTurned", fn := fun _ => fun
  | [d] => { results := [.lit (.bool true)], args := [d] }
  | _ => none }
def fnMergeTurnedRow : OpenClaim := { program := "ytkgbdglfpnmlgaa", sum := "ce7c9b79e53a5ac11d67ea16b99cb023b9e3db4a4a23a0a9b4963de425995b27", func := "loop.example/assumeguarantee/laws.FnMergeTurned", spec := "fnMergeTurned", apart := false }
def FnMergeTurnedSaid : Prop := fnMergeTurnedRow.holds Try.pinned (OpenSpec.ofChange fnMergeTurnedSpec)

/-- ITS FALSE NEIGHBOUR: 'it returns false'. Refute it at one input. -/
def fnMergeTurnedWrong : ChangeSpec := { name := "fnMergeTurned", fn := fun _ => fun
  | [d] => { results := [.lit (.bool false)], args := [d] }
  | _ => none }
def FnMergeTurnedWrongFalsely : Prop := fnMergeTurnedRow.holds Try.pinned (OpenSpec.ofChange fnMergeTurnedWrong)

/-- 'laws.FnMergeWords': WHATEVER THE INPUT: true; the input reads as it did. -/
def fnMergeWordsSpec : ChangeSpec := { name := "fnMergeWords", fn := fun _ => fun
  | [d] => { results := [.lit (.bool true)], args := [d] }
  | _ => none }
def fnMergeWordsRow : OpenClaim := { program := "ytkgbdglfpnmlgaa", sum := "ce7c9b79e53a5ac11d67ea16b99cb023b9e3db4a4a23a0a9b4963de425995b27", func := "loop.example/assumeguarantee/laws.FnMergeWords", spec := "fnMergeWords", apart := false }
def FnMergeWordsSaid : Prop := fnMergeWordsRow.holds Try.pinned (OpenSpec.ofChange fnMergeWordsSpec)

/-- ITS FALSE NEIGHBOUR: 'it returns false'. Refute it at one input. -/
def fnMergeWordsWrong : ChangeSpec := { name := "fnMergeWords", fn := fun _ => fun
  | [d] => { results := [.lit (.bool false)], args := [d] }
  | _ => none }
def FnMergeWordsWrongFalsely : Prop := fnMergeWordsRow.holds Try.pinned (OpenSpec.ofChange fnMergeWordsWrong)

/-- 'laws.FnMergeNone': WHATEVER THE INPUT: true; the input reads as it did. -/
def fnMergeNoneSpec : ChangeSpec := { name := "fnMergeNone", fn := fun _ => fun
  | [d] => { results := [.lit (.bool true)], args := [d] }
  | _ => none }
def fnMergeNoneRow : OpenClaim := { program := "ytkgbdglfpnmlgaa", sum := "ce7c9b79e53a5ac11d67ea16b99cb023b9e3db4a4a23a0a9b4963de425995b27", func := "loop.example/assumeguarantee/laws.FnMergeNone", spec := "fnMergeNone", apart := false }
def FnMergeNoneSaid : Prop := fnMergeNoneRow.holds Try.pinned (OpenSpec.ofChange fnMergeNoneSpec)

/-- ITS FALSE NEIGHBOUR: 'it returns false'. Refute it at one input. -/
def fnMergeNoneWrong : ChangeSpec := { name := "fnMergeNone", fn := fun _ => fun
  | [d] => { results := [.lit (.bool false)], args := [d] }
  | _ => none }
def FnMergeNoneWrongFalsely : Prop := fnMergeNoneRow.holds Try.pinned (OpenSpec.ofChange fnMergeNoneWrong)

/-- 'laws.FnNextLeast': WHATEVER THE INPUT: true; the input reads as it did. -/
def fnNextLeastSpec : ChangeSpec := { name := "fnNextLeast", fn := fun _ => fun
  | [d1, d2] => { results := [.lit (.bool true)], args := [d1, d2] }
  | _ => none }
def fnNextLeastRow : OpenClaim := { program := "ytkgbdglfpnmlgaa", sum := "ce7c9b79e53a5ac11d67ea16b99cb023b9e3db4a4a23a0a9b4963de425995b27", func := "loop.example/assumeguarantee/laws.FnNextLeast", spec := "fnNextLeast", apart := false }
def FnNextLeastSaid : Prop := fnNextLeastRow.holds Try.pinned (OpenSpec.ofChange fnNextLeastSpec)

/-- ITS FALSE NEIGHBOUR: 'it returns false'. Refute it at one input. -/
def fnNextLeastWrong : ChangeSpec := { name := "fnNextLeast", fn := fun _ => fun
  | [d1, d2] => { results := [.lit (.bool false)], args := [d1, d2] }
  | _ => none }
def FnNextLeastWrongFalsely : Prop := fnNextLeastRow.holds Try.pinned (OpenSpec.ofChange fnNextLeastWrong)

/-- 'laws.FnNextWord': WHATEVER THE INPUT: true; the input reads as it did. -/
def fnNextWordSpec : ChangeSpec := { name := "fnNextWord", fn := fun _ => fun
  | [d] => { results := [.lit (.bool true)], args := [d] }
  | _ => none }
def fnNextWordRow : OpenClaim := { program := "ytkgbdglfpnmlgaa", sum := "ce7c9b79e53a5ac11d67ea16b99cb023b9e3db4a4a23a0a9b4963de425995b27", func := "loop.example/assumeguarantee/laws.FnNextWord", spec := "fnNextWord", apart := false }
def FnNextWordSaid : Prop := fnNextWordRow.holds Try.pinned (OpenSpec.ofChange fnNextWordSpec)

/-- ITS FALSE NEIGHBOUR: 'it returns false'. Refute it at one input. -/
def fnNextWordWrong : ChangeSpec := { name := "fnNextWord", fn := fun _ => fun
  | [d] => { results := [.lit (.bool false)], args := [d] }
  | _ => none }
def FnNextWordWrongFalsely : Prop := fnNextWordRow.holds Try.pinned (OpenSpec.ofChange fnNextWordWrong)

/- THE SECOND FORM. 'bulk': how many values and letters a reading holds, each counted each time it is reached (what is shared counts as often as it is met; a slice's spare places count too). A statement '..UptoSaid' is the law's where the arguments, and the package variables that the reading takes, are together of bulk at most 1048576: NARROWER than '..Said'. Prove '..Said' where nothing that the law and all that it calls make is longer than what came in: it says more and counts as full. Else prove '..UptoSaid'. A law counts once. -/
mutual
def uptoBulk {H : Type} : DataW H → Nat
  | .lit (.string bytes) => bytes.length + 1
  | .lit _ => 1
  | .nil => 1
  | .ptr d => uptoBulk d + 1
  | .slice elems spare => uptoBulkAll elems + uptoBulkAll spare + 1
  | .agg parts => uptoBulkAll parts + 1
  | .iface _ d => uptoBulk d + 1
  | .map entries => uptoBulkEntries entries + 1
  | .held _ => 1
def uptoBulkAll {H : Type} : List (DataW H) → Nat
  | [] => 0
  | d :: r => uptoBulk d + uptoBulkAll r
def uptoBulkEntries {H : Type} : List (Lit × DataW H) → Nat
  | [] => 0
  | x :: r => uptoBulkEntry x + uptoBulkEntries r
def uptoBulkEntry {H : Type} : Lit × DataW H → Nat
  | (.string bytes, d) => bytes.length + uptoBulk d + 1
  | (_, d) => uptoBulk d + 1
 end
def uptoSmall : (H : Type) → List (DataW H) → Bool := fun _ ds => decide (uptoBulkAll ds ≤ 1048576)
def OpenSpec.upto (s : _root_.Go.ChangeSpec) : _root_.Go.OpenSpec := { _root_.Go.OpenSpec.ofChange s with cond := some uptoSmall }

/-- 'laws.FnAlphabetText', WHERE WHAT IT READS IS OF BULK AT MOST 1048576: true; the input reads as it did. -/
def fnAlphabetTextUptoRow : OpenClaim := { program := "ytkgbdglfpnmlgaa", sum := "ce7c9b79e53a5ac11d67ea16b99cb023b9e3db4a4a23a0a9b4963de425995b27", func := "loop.example/assumeguarantee/laws.FnAlphabetText", spec := "fnAlphabetText", apart := false, narrowed := true }
def FnAlphabetTextUptoSaid : Prop := fnAlphabetTextUptoRow.holds Try.pinned (OpenSpec.upto fnAlphabetTextSpec)

/-- 'laws.FnAlphabetOf', WHERE WHAT IT READS IS OF BULK AT MOST 1048576: true; the input reads as it did. -/
def fnAlphabetOfUptoRow : OpenClaim := { program := "ytkgbdglfpnmlgaa", sum := "ce7c9b79e53a5ac11d67ea16b99cb023b9e3db4a4a23a0a9b4963de425995b27", func := "loop.example/assumeguarantee/laws.FnAlphabetOf", spec := "fnAlphabetOf", apart := false, narrowed := true }
def FnAlphabetOfUptoSaid : Prop := fnAlphabetOfUptoRow.holds Try.pinned (OpenSpec.upto fnAlphabetOfSpec)

/-- 'laws.FnWordAt', WHERE WHAT IT READS IS OF BULK AT MOST 1048576: true; the input reads as it did. -/
def fnWordAtUptoRow : OpenClaim := { program := "ytkgbdglfpnmlgaa", sum := "ce7c9b79e53a5ac11d67ea16b99cb023b9e3db4a4a23a0a9b4963de425995b27", func := "loop.example/assumeguarantee/laws.FnWordAt", spec := "fnWordAt", apart := false, narrowed := true }
def FnWordAtUptoSaid : Prop := fnWordAtUptoRow.holds Try.pinned (OpenSpec.upto fnWordAtSpec)

/-- 'laws.FnRestrictSides', WHERE WHAT IT READS IS OF BULK AT MOST 1048576: true; the input reads as it did. -/
def fnRestrictSidesUptoRow : OpenClaim := { program := "ytkgbdglfpnmlgaa", sum := "ce7c9b79e53a5ac11d67ea16b99cb023b9e3db4a4a23a0a9b4963de425995b27", func := "loop.example/assumeguarantee/laws.FnRestrictSides", spec := "fnRestrictSides", apart := false, narrowed := true }
def FnRestrictSidesUptoSaid : Prop := fnRestrictSidesUptoRow.holds Try.pinned (OpenSpec.upto fnRestrictSidesSpec)

/-- 'laws.FnRestrictTwice', WHERE WHAT IT READS IS OF BULK AT MOST 1048576: true; the input reads as it did. -/
def fnRestrictTwiceUptoRow : OpenClaim := { program := "ytkgbdglfpnmlgaa", sum := "ce7c9b79e53a5ac11d67ea16b99cb023b9e3db4a4a23a0a9b4963de425995b27", func := "loop.example/assumeguarantee/laws.FnRestrictTwice", spec := "fnRestrictTwice", apart := false, narrowed := true }
def FnRestrictTwiceUptoSaid : Prop := fnRestrictTwiceUptoRow.holds Try.pinned (OpenSpec.upto fnRestrictTwiceSpec)

/-- 'laws.FnWordSteps', WHERE WHAT IT READS IS OF BULK AT MOST 1048576: true; the input reads as it did. -/
def fnWordStepsUptoRow : OpenClaim := { program := "ytkgbdglfpnmlgaa", sum := "ce7c9b79e53a5ac11d67ea16b99cb023b9e3db4a4a23a0a9b4963de425995b27", func := "loop.example/assumeguarantee/laws.FnWordSteps", spec := "fnWordSteps", apart := false, narrowed := true }
def FnWordStepsUptoSaid : Prop := fnWordStepsUptoRow.holds Try.pinned (OpenSpec.upto fnWordStepsSpec)

/-- 'laws.FnRestrictJoin', WHERE WHAT IT READS IS OF BULK AT MOST 1048576: true; the input reads as it did. -/
def fnRestrictJoinUptoRow : OpenClaim := { program := "ytkgbdglfpnmlgaa", sum := "ce7c9b79e53a5ac11d67ea16b99cb023b9e3db4a4a23a0a9b4963de425995b27", func := "loop.example/assumeguarantee/laws.FnRestrictJoin", spec := "fnRestrictJoin", apart := false, narrowed := true }
def FnRestrictJoinUptoSaid : Prop := fnRestrictJoinUptoRow.holds Try.pinned (OpenSpec.upto fnRestrictJoinSpec)

/-- 'laws.FnWordBehind', WHERE WHAT IT READS IS OF BULK AT MOST 1048576: true; the input reads as it did. -/
def fnWordBehindUptoRow : OpenClaim := { program := "ytkgbdglfpnmlgaa", sum := "ce7c9b79e53a5ac11d67ea16b99cb023b9e3db4a4a23a0a9b4963de425995b27", func := "loop.example/assumeguarantee/laws.FnWordBehind", spec := "fnWordBehind", apart := false, narrowed := true }
def FnWordBehindUptoSaid : Prop := fnWordBehindUptoRow.holds Try.pinned (OpenSpec.upto fnWordBehindSpec)

/-- 'laws.FnWordOrder', WHERE WHAT IT READS IS OF BULK AT MOST 1048576: true; the input reads as it did. -/
def fnWordOrderUptoRow : OpenClaim := { program := "ytkgbdglfpnmlgaa", sum := "ce7c9b79e53a5ac11d67ea16b99cb023b9e3db4a4a23a0a9b4963de425995b27", func := "loop.example/assumeguarantee/laws.FnWordOrder", spec := "fnWordOrder", apart := false, narrowed := true }
def FnWordOrderUptoSaid : Prop := fnWordOrderUptoRow.holds Try.pinned (OpenSpec.upto fnWordOrderSpec)

/-- 'laws.FnNumberOrder', WHERE WHAT IT READS IS OF BULK AT MOST 1048576: true; the input reads as it did. -/
def fnNumberOrderUptoRow : OpenClaim := { program := "ytkgbdglfpnmlgaa", sum := "ce7c9b79e53a5ac11d67ea16b99cb023b9e3db4a4a23a0a9b4963de425995b27", func := "loop.example/assumeguarantee/laws.FnNumberOrder", spec := "fnNumberOrder", apart := false, narrowed := true }
def FnNumberOrderUptoSaid : Prop := fnNumberOrderUptoRow.holds Try.pinned (OpenSpec.upto fnNumberOrderSpec)

/-- 'laws.FnWordNumber', WHERE WHAT IT READS IS OF BULK AT MOST 1048576: true; the input reads as it did. -/
def fnWordNumberUptoRow : OpenClaim := { program := "ytkgbdglfpnmlgaa", sum := "ce7c9b79e53a5ac11d67ea16b99cb023b9e3db4a4a23a0a9b4963de425995b27", func := "loop.example/assumeguarantee/laws.FnWordNumber", spec := "fnWordNumber", apart := false, narrowed := true }
def FnWordNumberUptoSaid : Prop := fnWordNumberUptoRow.holds Try.pinned (OpenSpec.upto fnWordNumberSpec)

/-- 'laws.FnMergeLeast', WHERE WHAT IT READS IS OF BULK AT MOST 1048576: true; the input reads as it did. -/
def fnMergeLeastUptoRow : OpenClaim := { program := "ytkgbdglfpnmlgaa", sum := "ce7c9b79e53a5ac11d67ea16b99cb023b9e3db4a4a23a0a9b4963de425995b27", func := "loop.example/assumeguarantee/laws.FnMergeLeast", spec := "fnMergeLeast", apart := false, narrowed := true }
def FnMergeLeastUptoSaid : Prop := fnMergeLeastUptoRow.holds Try.pinned (OpenSpec.upto fnMergeLeastSpec)

/-- 'laws.FnMergeTurned', WHERE WHAT IT READS IS OF BULK AT MOST 1048576: true; the input reads as it did. -/
def fnMergeTurnedUptoRow : OpenClaim := { program := "ytkgbdglfpnmlgaa", sum := "ce7c9b79e53a5ac11d67ea16b99cb023b9e3db4a4a23a0a9b4963de425995b27", func := "loop.example/assumeguarantee/laws.FnMergeTurned", spec := "fnMergeTurned", apart := false, narrowed := true }
def FnMergeTurnedUptoSaid : Prop := fnMergeTurnedUptoRow.holds Try.pinned (OpenSpec.upto fnMergeTurnedSpec)

/-- 'laws.FnMergeWords', WHERE WHAT IT READS IS OF BULK AT MOST 1048576: true; the input reads as it did. -/
def fnMergeWordsUptoRow : OpenClaim := { program := "ytkgbdglfpnmlgaa", sum := "ce7c9b79e53a5ac11d67ea16b99cb023b9e3db4a4a23a0a9b4963de425995b27", func := "loop.example/assumeguarantee/laws.FnMergeWords", spec := "fnMergeWords", apart := false, narrowed := true }
def FnMergeWordsUptoSaid : Prop := fnMergeWordsUptoRow.holds Try.pinned (OpenSpec.upto fnMergeWordsSpec)

/-- 'laws.FnMergeNone', WHERE WHAT IT READS IS OF BULK AT MOST 1048576: true; the input reads as it did. -/
def fnMergeNoneUptoRow : OpenClaim := { program := "ytkgbdglfpnmlgaa", sum := "ce7c9b79e53a5ac11d67ea16b99cb023b9e3db4a4a23a0a9b4963de425995b27", func := "loop.example/assumeguarantee/laws.FnMergeNone", spec := "fnMergeNone", apart := false, narrowed := true }
def FnMergeNoneUptoSaid : Prop := fnMergeNoneUptoRow.holds Try.pinned (OpenSpec.upto fnMergeNoneSpec)

/-- 'laws.FnNextLeast', WHERE WHAT IT READS IS OF BULK AT MOST 1048576: true; the input reads as it did. -/
def fnNextLeastUptoRow : OpenClaim := { program := "ytkgbdglfpnmlgaa", sum := "ce7c9b79e53a5ac11d67ea16b99cb023b9e3db4a4a23a0a9b4963de425995b27", func := "loop.example/assumeguarantee/laws.FnNextLeast", spec := "fnNextLeast", apart := false, narrowed := true }
def FnNextLeastUptoSaid : Prop := fnNextLeastUptoRow.holds Try.pinned (OpenSpec.upto fnNextLeastSpec)

/-- 'laws.FnNextWord', WHERE WHAT IT READS IS OF BULK AT MOST 1048576: true; the input reads as it did. -/
def fnNextWordUptoRow : OpenClaim := { program := "ytkgbdglfpnmlgaa", sum := "ce7c9b79e53a5ac11d67ea16b99cb023b9e3db4a4a23a0a9b4963de425995b27", func := "loop.example/assumeguarantee/laws.FnNextWord", spec := "fnNextWord", apart := false, narrowed := true }
def FnNextWordUptoSaid : Prop := fnNextWordUptoRow.holds Try.pinned (OpenSpec.upto fnNextWordSpec)

end Rows
end Go.Proofs.Ytkgbdglfpnmlgaa
