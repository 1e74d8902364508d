/-
  No cell of these rows narrows 'for every input' (looked for: loops, veiled, ifaces, maps, wideKeys, modest, calm, conditions, laid).
  DERIVED. THE GIVEN ROWS OF THIS SEAT. 12 by the template 'for every input the law returns true; each argument reads behind the call as it read before'; 0 by the template 'total and deterministic' (their statements: YtkonmpkooimbfaaTotals.lean).
  GIVEN WITH THE SEED: the statements are not yours to turn. If you find one false, say at which input.
  Laid BY PROGRAM, IN A SANDBOX (cutbox-rows.mjs): the forced cells as the released guide's own fill.sh prints them over the translation 10de5098e22358b3… (all of the seat's roots in one cut). By AI agents, Wed Nov 11 2026. No macro, syntax, notation, axiom, sorry.
-/
import Derived.Test.YtkonmpkooimbfaaChecked
import GoSem.Claim
import GoSem.ClaimJoined
import GoSem.ClaimMapViews
import Derived.JoinedTies
import Derived.KernelRfl
namespace Go.Proofs.Ytkonmpkooimbfaa
/- THE CELL 'sum', in the pinned program and in every row, IS THE sha256 OF THE DUMP (.gsa) THAT YtkonmpkooimbfaaProg.lean LOADS. Nothing in Lean hashes anything: it is a label: what it is worth is what the hold of that sum in a sandbox is worth. -/
noncomputable def Try.pinned : Pinned := { name := "ytkonmpkooimbfaa", sum := "10de5098e22358b3dfdb3e32d09f90d524613959bfe06ca2126f62f277fa3325", checked := Try.checked }
namespace Rows
def none {H : Type} : Left H := { results := [], args := [] }

/-- 'laws.FnExactConstants': WHATEVER THE INPUT: true; the input reads as it did. -/
def fnExactConstantsSpec : ChangeSpec := { name := "fnExactConstants", fn := fun _ => fun
  | [] => { results := [.lit (.bool true)], args := [] }
  | _ => none }
def fnExactConstantsRow : OpenClaim := { program := "ytkonmpkooimbfaa", sum := "10de5098e22358b3dfdb3e32d09f90d524613959bfe06ca2126f62f277fa3325", func := "loop.example/assumeguarantee/laws.FnExactConstants", spec := "fnExactConstants", apart := false }
def FnExactConstantsSaid : Prop := fnExactConstantsRow.holds Try.pinned (OpenSpec.ofChange fnExactConstantsSpec)

/-- ITS FALSE NEIGHBOUR: 'it returns false'. Refute it at one input. -/
def fnExactConstantsWrong : ChangeSpec := { name := "fnExactConstants", fn := fun _ => fun
  | [] => { results := [.lit (.bool false)], args := [] }
  | _ => none }
def FnExactConstantsWrongFalsely : Prop := fnExactConstantsRow.holds Try.pinned (OpenSpec.ofChange fnExactConstantsWrong)

/-- 'laws.FnExactWordValid': WHATEVER THE INPUT: true; the input reads as it did. -/
def fnExactWordValidSpec : ChangeSpec := { name := "fnExactWordValid", fn := fun _ => fun
  | [d] => { results := [.lit (.bool true)], args := [d] }
  | _ => none }
def fnExactWordValidRow : OpenClaim := { program := "ytkonmpkooimbfaa", sum := "10de5098e22358b3dfdb3e32d09f90d524613959bfe06ca2126f62f277fa3325", func := "loop.example/assumeguarantee/laws.FnExactWordValid", spec := "fnExactWordValid", apart := false }
def FnExactWordValidSaid : Prop := fnExactWordValidRow.holds Try.pinned (OpenSpec.ofChange fnExactWordValidSpec)

/-- ITS FALSE NEIGHBOUR: 'it returns false'. Refute it at one input. -/
def fnExactWordValidWrong : ChangeSpec := { name := "fnExactWordValid", fn := fun _ => fun
  | [d] => { results := [.lit (.bool false)], args := [d] }
  | _ => none }
def FnExactWordValidWrongFalsely : Prop := fnExactWordValidRow.holds Try.pinned (OpenSpec.ofChange fnExactWordValidWrong)

/-- 'laws.FnExactWordWithin': WHATEVER THE INPUT: true; the input reads as it did. -/
def fnExactWordWithinSpec : ChangeSpec := { name := "fnExactWordWithin", fn := fun _ => fun
  | [d1, d2] => { results := [.lit (.bool true)], args := [d1, d2] }
  | _ => none }
def fnExactWordWithinRow : OpenClaim := { program := "ytkonmpkooimbfaa", sum := "10de5098e22358b3dfdb3e32d09f90d524613959bfe06ca2126f62f277fa3325", func := "loop.example/assumeguarantee/laws.FnExactWordWithin", spec := "fnExactWordWithin", apart := false }
def FnExactWordWithinSaid : Prop := fnExactWordWithinRow.holds Try.pinned (OpenSpec.ofChange fnExactWordWithinSpec)

/-- ITS FALSE NEIGHBOUR: 'it returns false'. Refute it at one input. -/
def fnExactWordWithinWrong : ChangeSpec := { name := "fnExactWordWithin", fn := fun _ => fun
  | [d1, d2] => { results := [.lit (.bool false)], args := [d1, d2] }
  | _ => none }
def FnExactWordWithinWrongFalsely : Prop := fnExactWordWithinRow.holds Try.pinned (OpenSpec.ofChange fnExactWordWithinWrong)

/-- 'laws.FnExactFormatAlphabet': WHATEVER THE INPUT: true; the input reads as it did. -/
def fnExactFormatAlphabetSpec : ChangeSpec := { name := "fnExactFormatAlphabet", fn := fun _ => fun
  | [d] => { results := [.lit (.bool true)], args := [d] }
  | _ => none }
def fnExactFormatAlphabetRow : OpenClaim := { program := "ytkonmpkooimbfaa", sum := "10de5098e22358b3dfdb3e32d09f90d524613959bfe06ca2126f62f277fa3325", func := "loop.example/assumeguarantee/laws.FnExactFormatAlphabet", spec := "fnExactFormatAlphabet", apart := false }
def FnExactFormatAlphabetSaid : Prop := fnExactFormatAlphabetRow.holds Try.pinned (OpenSpec.ofChange fnExactFormatAlphabetSpec)

/-- ITS FALSE NEIGHBOUR: 'it returns false'. Refute it at one input. -/
def fnExactFormatAlphabetWrong : ChangeSpec := { name := "fnExactFormatAlphabet", fn := fun _ => fun
  | [d] => { results := [.lit (.bool false)], args := [d] }
  | _ => none }
def FnExactFormatAlphabetWrongFalsely : Prop := fnExactFormatAlphabetRow.holds Try.pinned (OpenSpec.ofChange fnExactFormatAlphabetWrong)

/-- 'laws.FnExactAlphabetOf': WHATEVER THE INPUT: true; the input reads as it did. -/
def fnExactAlphabetOfSpec : ChangeSpec := { name := "fnExactAlphabetOf", fn := fun _ => fun
  | [d] => { results := [.lit (.bool true)], args := [d] }
  | _ => none }
def fnExactAlphabetOfRow : OpenClaim := { program := "ytkonmpkooimbfaa", sum := "10de5098e22358b3dfdb3e32d09f90d524613959bfe06ca2126f62f277fa3325", func := "loop.example/assumeguarantee/laws.FnExactAlphabetOf", spec := "fnExactAlphabetOf", apart := false }
def FnExactAlphabetOfSaid : Prop := fnExactAlphabetOfRow.holds Try.pinned (OpenSpec.ofChange fnExactAlphabetOfSpec)

/-- ITS FALSE NEIGHBOUR: 'it returns false'. Refute it at one input. -/
def fnExactAlphabetOfWrong : ChangeSpec := { name := "fnExactAlphabetOf", fn := fun _ => fun
  | [d] => { results := [.lit (.bool false)], args := [d] }
  | _ => none }
def FnExactAlphabetOfWrongFalsely : Prop := fnExactAlphabetOfRow.holds Try.pinned (OpenSpec.ofChange fnExactAlphabetOfWrong)

/-- 'laws.FnExactWordAt': WHATEVER THE INPUT: true; the input reads as it did. -/
def fnExactWordAtSpec : ChangeSpec := { name := "fnExactWordAt", fn := fun _ => fun
  | [d1, d2] => { results := [.lit (.bool true)], args := [d1, d2] }
  | _ => none }
def fnExactWordAtRow : OpenClaim := { program := "ytkonmpkooimbfaa", sum := "10de5098e22358b3dfdb3e32d09f90d524613959bfe06ca2126f62f277fa3325", func := "loop.example/assumeguarantee/laws.FnExactWordAt", spec := "fnExactWordAt", apart := false }
def FnExactWordAtSaid : Prop := fnExactWordAtRow.holds Try.pinned (OpenSpec.ofChange fnExactWordAtSpec)

/-- ITS FALSE NEIGHBOUR: 'it returns false'. Refute it at one input. -/
def fnExactWordAtWrong : ChangeSpec := { name := "fnExactWordAt", fn := fun _ => fun
  | [d1, d2] => { results := [.lit (.bool false)], args := [d1, d2] }
  | _ => none }
def FnExactWordAtWrongFalsely : Prop := fnExactWordAtRow.holds Try.pinned (OpenSpec.ofChange fnExactWordAtWrong)

/-- 'laws.FnExactRestrictWord': WHATEVER THE INPUT: true; the input reads as it did. -/
def fnExactRestrictWordSpec : ChangeSpec := { name := "fnExactRestrictWord", fn := fun _ => fun
  | [d1, d2] => { results := [.lit (.bool true)], args := [d1, d2] }
  | _ => none }
def fnExactRestrictWordRow : OpenClaim := { program := "ytkonmpkooimbfaa", sum := "10de5098e22358b3dfdb3e32d09f90d524613959bfe06ca2126f62f277fa3325", func := "loop.example/assumeguarantee/laws.FnExactRestrictWord", spec := "fnExactRestrictWord", apart := false }
def FnExactRestrictWordSaid : Prop := fnExactRestrictWordRow.holds Try.pinned (OpenSpec.ofChange fnExactRestrictWordSpec)

/-- ITS FALSE NEIGHBOUR: 'it returns false'. Refute it at one input. -/
def fnExactRestrictWordWrong : ChangeSpec := { name := "fnExactRestrictWord", fn := fun _ => fun
  | [d1, d2] => { results := [.lit (.bool false)], args := [d1, d2] }
  | _ => none }
def FnExactRestrictWordWrongFalsely : Prop := fnExactRestrictWordRow.holds Try.pinned (OpenSpec.ofChange fnExactRestrictWordWrong)

/-- 'laws.FnExactWordBefore': WHATEVER THE INPUT: true; the input reads as it did. -/
def fnExactWordBeforeSpec : ChangeSpec := { name := "fnExactWordBefore", fn := fun _ => fun
  | [d1, d2] => { results := [.lit (.bool true)], args := [d1, d2] }
  | _ => none }
def fnExactWordBeforeRow : OpenClaim := { program := "ytkonmpkooimbfaa", sum := "10de5098e22358b3dfdb3e32d09f90d524613959bfe06ca2126f62f277fa3325", func := "loop.example/assumeguarantee/laws.FnExactWordBefore", spec := "fnExactWordBefore", apart := false }
def FnExactWordBeforeSaid : Prop := fnExactWordBeforeRow.holds Try.pinned (OpenSpec.ofChange fnExactWordBeforeSpec)

/-- ITS FALSE NEIGHBOUR: 'it returns false'. Refute it at one input. -/
def fnExactWordBeforeWrong : ChangeSpec := { name := "fnExactWordBefore", fn := fun _ => fun
  | [d1, d2] => { results := [.lit (.bool false)], args := [d1, d2] }
  | _ => none }
def FnExactWordBeforeWrongFalsely : Prop := fnExactWordBeforeRow.holds Try.pinned (OpenSpec.ofChange fnExactWordBeforeWrong)

/-- 'laws.FnExactParseAlphabet': WHATEVER THE INPUT: true; the input reads as it did. -/
def fnExactParseAlphabetSpec : ChangeSpec := { name := "fnExactParseAlphabet", fn := fun _ => fun
  | [d] => { results := [.lit (.bool true)], args := [d] }
  | _ => none }
def fnExactParseAlphabetRow : OpenClaim := { program := "ytkonmpkooimbfaa", sum := "10de5098e22358b3dfdb3e32d09f90d524613959bfe06ca2126f62f277fa3325", func := "loop.example/assumeguarantee/laws.FnExactParseAlphabet", spec := "fnExactParseAlphabet", apart := false }
def FnExactParseAlphabetSaid : Prop := fnExactParseAlphabetRow.holds Try.pinned (OpenSpec.ofChange fnExactParseAlphabetSpec)

/-- ITS FALSE NEIGHBOUR: 'it returns false'. Refute it at one input. -/
def fnExactParseAlphabetWrong : ChangeSpec := { name := "fnExactParseAlphabet", fn := fun _ => fun
  | [d] => { results := [.lit (.bool false)], args := [d] }
  | _ => none }
def FnExactParseAlphabetWrongFalsely : Prop := fnExactParseAlphabetRow.holds Try.pinned (OpenSpec.ofChange fnExactParseAlphabetWrong)

/-- 'laws.FnExactWordNumber': WHATEVER THE INPUT: true; the input reads as it did. -/
def fnExactWordNumberSpec : ChangeSpec := { name := "fnExactWordNumber", fn := fun _ => fun
  | [d1, d2] => { results := [.lit (.bool true)], args := [d1, d2] }
  | _ => none }
def fnExactWordNumberRow : OpenClaim := { program := "ytkonmpkooimbfaa", sum := "10de5098e22358b3dfdb3e32d09f90d524613959bfe06ca2126f62f277fa3325", func := "loop.example/assumeguarantee/laws.FnExactWordNumber", spec := "fnExactWordNumber", apart := false }
def FnExactWordNumberSaid : Prop := fnExactWordNumberRow.holds Try.pinned (OpenSpec.ofChange fnExactWordNumberSpec)

/-- ITS FALSE NEIGHBOUR: 'it returns false'. Refute it at one input. -/
def fnExactWordNumberWrong : ChangeSpec := { name := "fnExactWordNumber", fn := fun _ => fun
  | [d1, d2] => { results := [.lit (.bool false)], args := [d1, d2] }
  | _ => none }
def FnExactWordNumberWrongFalsely : Prop := fnExactWordNumberRow.holds Try.pinned (OpenSpec.ofChange fnExactWordNumberWrong)

/-- 'laws.FnExactMergeWords': WHATEVER THE INPUT: true; the input reads as it did. -/
def fnExactMergeWordsSpec : ChangeSpec := { name := "fnExactMergeWords", fn := fun _ => fun
  | [d1, d2, d3, d4] => { results := [.lit (.bool true)], args := [d1, d2, d3, d4] }
  | _ => none }
def fnExactMergeWordsRow : OpenClaim := { program := "ytkonmpkooimbfaa", sum := "10de5098e22358b3dfdb3e32d09f90d524613959bfe06ca2126f62f277fa3325", func := "loop.example/assumeguarantee/laws.FnExactMergeWords", spec := "fnExactMergeWords", apart := false }
def FnExactMergeWordsSaid : Prop := fnExactMergeWordsRow.holds Try.pinned (OpenSpec.ofChange fnExactMergeWordsSpec)

/-- ITS FALSE NEIGHBOUR: 'it returns false'. Refute it at one input. -/
def fnExactMergeWordsWrong : ChangeSpec := { name := "fnExactMergeWords", fn := fun _ => fun
  | [d1, d2, d3, d4] => { results := [.lit (.bool false)], args := [d1, d2, d3, d4] }
  | _ => none }
def FnExactMergeWordsWrongFalsely : Prop := fnExactMergeWordsRow.holds Try.pinned (OpenSpec.ofChange fnExactMergeWordsWrong)

/-- 'laws.FnExactNextWord': WHATEVER THE INPUT: true; the input reads as it did. -/
def fnExactNextWordSpec : ChangeSpec := { name := "fnExactNextWord", fn := fun _ => fun
  | [d1, d2] => { results := [.lit (.bool true)], args := [d1, d2] }
  | _ => none }
def fnExactNextWordRow : OpenClaim := { program := "ytkonmpkooimbfaa", sum := "10de5098e22358b3dfdb3e32d09f90d524613959bfe06ca2126f62f277fa3325", func := "loop.example/assumeguarantee/laws.FnExactNextWord", spec := "fnExactNextWord", apart := false }
def FnExactNextWordSaid : Prop := fnExactNextWordRow.holds Try.pinned (OpenSpec.ofChange fnExactNextWordSpec)

/-- ITS FALSE NEIGHBOUR: 'it returns false'. Refute it at one input. -/
def fnExactNextWordWrong : ChangeSpec := { name := "fnExactNextWord", fn := fun _ => fun
  | [d1, d2] => { results := [.lit (.bool false)], args := [d1, d2] }
  | _ => none }
def FnExactNextWordWrongFalsely : Prop := fnExactNextWordRow.holds Try.pinned (OpenSpec.ofChange fnExactNextWordWrong)

/- THE SECOND FORM. 'bulk': how many values and letters a reading holds, each counted each time it is reached (what is shared counts as often as it is met; a slice's spare places count too). A statement '..UptoSaid' is the law's where the arguments, and the package variables that the reading takes, are together of bulk at most 1048576: NARROWER than '..Said'. Prove '..Said' where nothing that the law and all that it calls make is longer than what came in: it says more and counts as full. Else prove '..UptoSaid'. A law counts once. -/
mutual
def uptoBulk {H : Type} : DataW H → Nat
  | .lit (.string bytes) => bytes.length + 1
  | .lit _ => 1
  | .nil => 1
  | .ptr d => uptoBulk d + 1
  | .slice elems spare => uptoBulkAll elems + uptoBulkAll spare + 1
  | .agg parts => uptoBulkAll parts + 1
  | .iface _ d => uptoBulk d + 1
  | .map entries => uptoBulkEntries entries + 1
  | .held _ => 1
def uptoBulkAll {H : Type} : List (DataW H) → Nat
  | [] => 0
  | d :: r => uptoBulk d + uptoBulkAll r
def uptoBulkEntries {H : Type} : List (Lit × DataW H) → Nat
  | [] => 0
  | x :: r => uptoBulkEntry x + uptoBulkEntries r
def uptoBulkEntry {H : Type} : Lit × DataW H → Nat
  | (.string bytes, d) => bytes.length + uptoBulk d + 1
  | (_, d) => uptoBulk d + 1
 end
def uptoSmall : (H : Type) → List (DataW H) → Bool := fun _ ds => decide (uptoBulkAll ds ≤ 1048576)
def OpenSpec.upto (s : _root_.Go.ChangeSpec) : _root_.Go.OpenSpec := { _root_.Go.OpenSpec.ofChange s with cond := some uptoSmall }

/-- 'laws.FnExactConstants', WHERE WHAT IT READS IS OF BULK AT MOST 1048576: true; the input reads as it did. -/
def fnExactConstantsUptoRow : OpenClaim := { program := "ytkonmpkooimbfaa", sum := "10de5098e22358b3dfdb3e32d09f90d524613959bfe06ca2126f62f277fa3325", func := "loop.example/assumeguarantee/laws.FnExactConstants", spec := "fnExactConstants", apart := false, narrowed := true }
def FnExactConstantsUptoSaid : Prop := fnExactConstantsUptoRow.holds Try.pinned (OpenSpec.upto fnExactConstantsSpec)

/-- 'laws.FnExactWordValid', WHERE WHAT IT READS IS OF BULK AT MOST 1048576: true; the input reads as it did. -/
def fnExactWordValidUptoRow : OpenClaim := { program := "ytkonmpkooimbfaa", sum := "10de5098e22358b3dfdb3e32d09f90d524613959bfe06ca2126f62f277fa3325", func := "loop.example/assumeguarantee/laws.FnExactWordValid", spec := "fnExactWordValid", apart := false, narrowed := true }
def FnExactWordValidUptoSaid : Prop := fnExactWordValidUptoRow.holds Try.pinned (OpenSpec.upto fnExactWordValidSpec)

/-- 'laws.FnExactWordWithin', WHERE WHAT IT READS IS OF BULK AT MOST 1048576: true; the input reads as it did. -/
def fnExactWordWithinUptoRow : OpenClaim := { program := "ytkonmpkooimbfaa", sum := "10de5098e22358b3dfdb3e32d09f90d524613959bfe06ca2126f62f277fa3325", func := "loop.example/assumeguarantee/laws.FnExactWordWithin", spec := "fnExactWordWithin", apart := false, narrowed := true }
def FnExactWordWithinUptoSaid : Prop := fnExactWordWithinUptoRow.holds Try.pinned (OpenSpec.upto fnExactWordWithinSpec)

/-- 'laws.FnExactFormatAlphabet', WHERE WHAT IT READS IS OF BULK AT MOST 1048576: true; the input reads as it did. -/
def fnExactFormatAlphabetUptoRow : OpenClaim := { program := "ytkonmpkooimbfaa", sum := "10de5098e22358b3dfdb3e32d09f90d524613959bfe06ca2126f62f277fa3325", func := "loop.example/assumeguarantee/laws.FnExactFormatAlphabet", spec := "fnExactFormatAlphabet", apart := false, narrowed := true }
def FnExactFormatAlphabetUptoSaid : Prop := fnExactFormatAlphabetUptoRow.holds Try.pinned (OpenSpec.upto fnExactFormatAlphabetSpec)

/-- 'laws.FnExactAlphabetOf', WHERE WHAT IT READS IS OF BULK AT MOST 1048576: true; the input reads as it did. -/
def fnExactAlphabetOfUptoRow : OpenClaim := { program := "ytkonmpkooimbfaa", sum := "10de5098e22358b3dfdb3e32d09f90d524613959bfe06ca2126f62f277fa3325", func := "loop.example/assumeguarantee/laws.FnExactAlphabetOf", spec := "fnExactAlphabetOf", apart := false, narrowed := true }
def FnExactAlphabetOfUptoSaid : Prop := fnExactAlphabetOfUptoRow.holds Try.pinned (OpenSpec.upto fnExactAlphabetOfSpec)

/-- 'laws.FnExactWordAt', WHERE WHAT IT READS IS OF BULK AT MOST 1048576: true; the input reads as it did. -/
def fnExactWordAtUptoRow : OpenClaim := { program := "ytkonmpkooimbfaa", sum := "10de5098e22358b3dfdb3e32d09f90d524613959bfe06ca2126f62f277fa3325", func := "loop.example/assumeguarantee/laws.FnExactWordAt", spec := "fnExactWordAt", apart := false, narrowed := true }
def FnExactWordAtUptoSaid : Prop := fnExactWordAtUptoRow.holds Try.pinned (OpenSpec.upto fnExactWordAtSpec)

/-- 'laws.FnExactRestrictWord', WHERE WHAT IT READS IS OF BULK AT MOST 1048576: true; the input reads as it did. -/
def fnExactRestrictWordUptoRow : OpenClaim := { program := "ytkonmpkooimbfaa", sum := "10de5098e22358b3dfdb3e32d09f90d524613959bfe06ca2126f62f277fa3325", func := "loop.example/assumeguarantee/laws.FnExactRestrictWord", spec := "fnExactRestrictWord", apart := false, narrowed := true }
def FnExactRestrictWordUptoSaid : Prop := fnExactRestrictWordUptoRow.holds Try.pinned (OpenSpec.upto fnExactRestrictWordSpec)

/-- 'laws.FnExactWordBefore', WHERE WHAT IT READS IS OF BULK AT MOST 1048576: true; the input reads as it did. -/
def fnExactWordBeforeUptoRow : OpenClaim := { program := "ytkonmpkooimbfaa", sum := "10de5098e22358b3dfdb3e32d09f90d524613959bfe06ca2126f62f277fa3325", func := "loop.example/assumeguarantee/laws.FnExactWordBefore", spec := "fnExactWordBefore", apart := false, narrowed := true }
def FnExactWordBeforeUptoSaid : Prop := fnExactWordBeforeUptoRow.holds Try.pinned (OpenSpec.upto fnExactWordBeforeSpec)

/-- 'laws.FnExactParseAlphabet', WHERE WHAT IT READS IS OF BULK AT MOST 1048576: true; the input reads as it did. -/
def fnExactParseAlphabetUptoRow : OpenClaim := { program := "ytkonmpkooimbfaa", sum := "10de5098e22358b3dfdb3e32d09f90d524613959bfe06ca2126f62f277fa3325", func := "loop.example/assumeguarantee/laws.FnExactParseAlphabet", spec := "fnExactParseAlphabet", apart := false, narrowed := true }
def FnExactParseAlphabetUptoSaid : Prop := fnExactParseAlphabetUptoRow.holds Try.pinned (OpenSpec.upto fnExactParseAlphabetSpec)

/-- 'laws.FnExactWordNumber', WHERE WHAT IT READS IS OF BULK AT MOST 1048576: true; the input reads as it did. -/
def fnExactWordNumberUptoRow : OpenClaim := { program := "ytkonmpkooimbfaa", sum := "10de5098e22358b3dfdb3e32d09f90d524613959bfe06ca2126f62f277fa3325", func := "loop.example/assumeguarantee/laws.FnExactWordNumber", spec := "fnExactWordNumber", apart := false, narrowed := true }
def FnExactWordNumberUptoSaid : Prop := fnExactWordNumberUptoRow.holds Try.pinned (OpenSpec.upto fnExactWordNumberSpec)

/-- 'laws.FnExactMergeWords', WHERE WHAT IT READS IS OF BULK AT MOST 1048576: true; the input reads as it did. -/
def fnExactMergeWordsUptoRow : OpenClaim := { program := "ytkonmpkooimbfaa", sum := "10de5098e22358b3dfdb3e32d09f90d524613959bfe06ca2126f62f277fa3325", func := "loop.example/assumeguarantee/laws.FnExactMergeWords", spec := "fnExactMergeWords", apart := false, narrowed := true }
def FnExactMergeWordsUptoSaid : Prop := fnExactMergeWordsUptoRow.holds Try.pinned (OpenSpec.upto fnExactMergeWordsSpec)

/-- 'laws.FnExactNextWord', WHERE WHAT IT READS IS OF BULK AT MOST 1048576: true; the input reads as it did. -/
def fnExactNextWordUptoRow : OpenClaim := { program := "ytkonmpkooimbfaa", sum := "10de5098e22358b3dfdb3e32d09f90d524613959bfe06ca2126f62f277fa3325", func := "loop.example/assumeguarantee/laws.FnExactNextWord", spec := "fnExactNextWord", apart := false, narrowed := true }
def FnExactNextWordUptoSaid : Prop := fnExactNextWordUptoRow.holds Try.pinned (OpenSpec.upto fnExactNextWordSpec)

end Rows
end Go.Proofs.Ytkonmpkooimbfaa
