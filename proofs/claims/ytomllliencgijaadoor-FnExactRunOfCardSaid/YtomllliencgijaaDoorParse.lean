/- ParseAlphabet on both sides. -/
import Derived.Test.YtomllliencgijaaDoorFormat
namespace Go.Proofs.YtomllliencgijaaDoor
open Go.RowKit
set_option linter.unusedVariables false
set_option linter.unusedSimpArgs false
set_option maxRecDepth 100000

def ParseRet (l : List UInt8) : Value := .tuple #[.int .i64 (parseN l : Int), .bool (parseB l)]
def RetBel' (v : Value) (w : World) (e : Ending) (w' : World) : Prop := e = .returned v ∧ Below w.heap.size w w'
def ParRel (s : ByteArray) (v i : Value) : Prop := ∃ k : Nat, k ≤ s.size ∧ i = .int .i64 k ∧ v = .int .i64 (alphS (s.data.toList.take k) : Nat)

def SParRel (s : ByteArray) (w : World) (i : Value) (wr : World) : Prop := ∃ k : Nat, k ≤ 64 ∧ i = .int .i64 k ∧ (∀ j : Nat, j < k → fmtA (j : Int) ≠ s.data.toList) ∧ Below w.heap.size w wr

end Go.Proofs.YtomllliencgijaaDoor
