/- ExtendAutomaton: what it makes of the rows. -/
import Derived.Test.YtagegbhchljggaaComp
import Derived.Test.YtagegbhchljggaaTable
import Derived.Test.YtagegbhchljggaaLetters
import Derived.Test.YtagegbhchljggaaOrder
namespace Go.Proofs.Ytagegbhchljggaa
open Go.RowKit
set_option linter.unusedVariables false
set_option linter.unusedSimpArgs false
set_option maxRecDepth 100000

/-- The row of a state over the wider alphabet. -/
def extRow (al C : Int) (xss : List (List Int)) (i : Nat) : List Int := (lets C).map (fun x => goA al xss i x.toNat)
def extM (al C : Int) (xss : List (List Int)) : List (List Int) := (List.range xss.length).map (extRow al C xss)
theorem extM_len (al C : Int) (xss : List (List Int)) : (extM al C xss).length = xss.length := by simp [extM]
theorem extRow_len (al C : Int) (xss : List (List Int)) (i : Nat) : (extRow al C xss i).length = (lets C).length := by simp [extRow]
theorem extM_at (al C : Int) (xss : List (List Int)) (i : Nat) (h : i < xss.length) : (extM al C xss)[i]?.getD [] = extRow al C xss i := by
  unfold extM
  rw [List.getElem?_map, List.getElem?_range h]
  rfl
theorem extRow_take (al C : Int) (xss : List (List Int)) (i l y : Nat) (h : l < (lets C).length) (hy : (lets C)[l]?.getD 0 = (y : Int)) : (extRow al C xss i).take (l + 1) = (extRow al C xss i).take l ++ [goA al xss i y] := by
  have hl : l < (extRow al C xss i).length := by rw [extRow_len]; exact h
  rw [List.take_succ_eq_append_getElem hl]
  have e : (extRow al C xss i)[l] = goA al xss i y := by
    rw [List.getElem?_eq_getElem h, Option.getD_some] at hy
    simp only [extRow, List.getElem_map, hy, Int.toNat_natCast]
  rw [e]
theorem extM_lens (al C : Int) (xss : List (List Int)) : ∀ l ∈ extM al C xss, l.length ≤ 1048576 := by
  intro l hl
  obtain ⟨i, -, rfl⟩ := List.mem_map.1 hl
  rw [extRow_len]
  have := lets_len C
  omega
theorem or_isA' {a b : Int} (ha : isA a = true) (hb : isA b = true) : isA (bits .or .i64 a b) = true := by
  obtain ⟨h0, h1⟩ := (isA_iff a).1 ha
  obtain ⟨h2, h3⟩ := (isA_iff b).1 hb
  rw [or_i64 _ _ h0 h2 (by omega) (by omega)]
  have := Nat.or_lt_two_pow (n := 6) (show a.toNat < 2 ^ 6 by omega) (show b.toNat < 2 ^ 6 by omega)
  exact (isA_iff _).2 ⟨by omega, by omega⟩
theorem lets_nat (C : Int) (l : Nat) (h : l < (lets C).length) : ∃ y : Nat, (lets C)[l]?.getD 0 = (y : Int) ∧ y < 6 := by
  rw [List.getElem?_eq_getElem h, Option.getD_some]
  have := lets_at C l h
  exact ⟨((lets C)[l]).toNat, by omega, by omega⟩
end Go.Proofs.Ytagegbhchljggaa
