/- restrict, RestrictWord, l1Text, FormatAlphabet: what they compute, for every argument. -/
import Derived.Test.YtagegbhchljggaaWithin
namespace Go.Proofs.Ytagegbhchljggaa
open Go.RowKit
set_option linter.unusedVariables false
set_option linter.unusedSimpArgs false
set_option maxRecDepth 100000

/-- A string with these bytes, and nothing old written. -/
def RetStr (l : List UInt8) (w : World) (e : Ending) (w' : World) : Prop := ∃ r : ByteArray, e = .returned (.string r) ∧ r.data.toList = l ∧ Below w.heap.size w w'
def RetStr2 (l : List UInt8) (b : Bool) (w : World) (e : Ending) (w' : World) : Prop := ∃ r : ByteArray, e = .returned (.tuple #[.string r, .bool b]) ∧ r.data.toList = l ∧ Below w.heap.size w w'

def RestRel (s : ByteArray) (a : Int) (w : World) (v i : Value) (wr : World) : Prop :=
  ∃ k : Nat, k ≤ s.size ∧ i = .int .i64 k ∧ (∃ ao n cap, v = .slice ao n cap ∧ n = (restrL a (s.data.toList.take k)).length ∧ BRow w.heap.size wr (.slice ao n cap) (restrL a (s.data.toList.take k))) ∧ Below w.heap.size w wr

theorem restr_bd (s : ByteArray) (a : Int) (k : Nat) : (restrL a (s.data.toList.take k)).length ≤ s.size := by
  refine Nat.le_trans (restrL_len _ _) ?_
  rw [List.length_take, data_len]; omega

def restrW (a : Int) (l : List UInt8) : List UInt8 := if wvalid l = true ∧ isA a = true then restrL a l else []

theorem l1Text_any (n : Int) (h0 : 0 ≤ n) (h1 : n < 6) (w : World) : Calls Try.prog 89 #[.int .i64 n] w (RetStr [lb n] w) := by
  have hcv := run_string_of_one w (lb n) (97 + n) (lb_nat n h0 h1).symm
  go_enter Try.func89, Try.ntmps89
  go_wp2
  go_ret
  exact ⟨_, rfl, rfl, (Below.refl _ _).alloc (Nat.le_refl _) _⟩

end Go.Proofs.Ytagegbhchljggaa
