/- slices.Index over ints, l1Place, WordNumber on both sides. -/
import Derived.Test.YtnjakhojdhkihaaGreatDoorFormat
namespace Go.Proofs.YtnjakhojdhkihaaGreatDoor
open Go.RowKit
set_option linter.unusedVariables false
set_option linter.unusedSimpArgs false
set_option maxRecDepth 100000

def IdxRel (xs : List Int) (x : Int) (i : Value) : Prop := ∃ k : Nat, k ≤ xs.length ∧ i = .int .i64 k ∧ idxFrom (xs.drop k) x k = idxI xs x

def PlaceRel (a : Int) (v i : Value) : Prop := ∃ k : Nat, k ≤ 6 ∧ i = .int .i64 k ∧ v = .int .i64 ((letsTo a k).length : Nat)

def NumRel (s : ByteArray) (a : Int) (v i : Value) : Prop := ∃ k : Nat, k ≤ s.size ∧ i = .int .i64 k ∧ v = .int .i64 (numN a (s.data.toList.take k) : Nat)

theorem num_bd (s : ByteArray) (a : Int) (k : Nat) (hk : k ≤ 7) : numN a (s.data.toList.take k) < 823543 := by
  refine Nat.lt_of_lt_of_le (numN_lt a _) ?_
  exact Nat.le_trans (Nat.pow_le_pow_right (by decide) (by rw [List.length_take]; omega : (s.data.toList.take k).length ≤ 7)) (by decide)

def RetBel (v : Value) (w : World) (e : Ending) (w' : World) : Prop := e = .returned v ∧ Below w.heap.size w w'

end Go.Proofs.YtnjakhojdhkihaaGreatDoor
