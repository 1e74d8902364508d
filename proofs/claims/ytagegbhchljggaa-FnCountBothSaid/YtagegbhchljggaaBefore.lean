/- cmp.Compare, cmp.Or, shortlex, WordBefore on both sides. -/
import Derived.Test.YtagegbhchljggaaNumber
namespace Go.Proofs.Ytagegbhchljggaa
open Go.RowKit
set_option linter.unusedVariables false
set_option linter.unusedSimpArgs false
set_option maxRecDepth 100000

def cmpS (a b : List UInt8) : Int := if Op.bytesLess a b = true then -1 else if a = b then 0 else 1
theorem or_yes (xs : List Int) (k : Nat) (h : k < xs.length) (he : xs[k]?.getD 0 ≠ 0) : orL (xs.drop k) = xs[k]?.getD 0 := by
  rw [List.drop_eq_getElem_cons h]; rw [List.getElem?_eq_getElem h] at he ⊢
  simp only [Option.getD_some] at he ⊢
  simp [orL, he]
theorem or_no (xs : List Int) (k : Nat) (h : k < xs.length) (he : xs[k]?.getD 0 = 0) : orL (xs.drop k) = orL (xs.drop (k + 1)) := by
  rw [List.drop_eq_getElem_cons h]; rw [List.getElem?_eq_getElem h] at he
  simp only [Option.getD_some] at he
  simp [orL, he]

def shortL (v w : ByteArray) : Int := orL [cmpI v.size w.size, cmpS v.toList w.toList]


end Go.Proofs.Ytagegbhchljggaa
