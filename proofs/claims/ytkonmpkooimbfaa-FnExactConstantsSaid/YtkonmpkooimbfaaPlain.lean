/- The plain mathematics of words and alphabets: no program in sight. -/
namespace Go.Proofs.Ytkonmpkooimbfaa
set_option linter.unusedVariables false
set_option linter.unusedSimpArgs false

/-- A number is the number of an alphabet. -/
def isA (n : Int) : Bool := decide (0 ≤ n ∧ n ≤ 63)
theorem isA_iff (n : Int) : isA n = true ↔ 0 ≤ n ∧ n ≤ 63 := by simp [isA]
theorem isA_no (n : Int) : isA n = false ↔ ¬ (0 ≤ n ∧ n ≤ 63) := by simp [isA]
/-- The number of a letter, or -1. -/
def ltr (c : UInt8) : Int := if 97 ≤ c.toNat ∧ c.toNat < 103 then (c.toNat : Int) - 97 else -1
/-- Whether a set has a number. -/
def hasB (s n : Int) : Bool := decide (0 ≤ n) && s.toNat.testBit n.toNat


theorem hasB_nat (s n : Nat) : hasB (s : Int) (n : Int) = s.testBit n := by simp [hasB]
theorem hasB_neg (s n : Int) (h : n < 0) : hasB s n = false := by simp [hasB]; omega

/-- The numbers below k of a set, ascending. -/
def letsTo (a : Int) (k : Nat) : List Int := ((List.range k).map Int.ofNat).filter (hasB a)
/-- The numbers of the letters of an alphabet. -/
def lets (a : Int) : List Int := letsTo a 6
theorem letsTo_zero (a : Int) : letsTo a 0 = [] := rfl
theorem letsTo_yes (a : Int) (k : Nat) (h : hasB a k = true) : letsTo a (k + 1) = letsTo a k ++ [(k : Int)] := by
  simp [letsTo, List.range_succ, List.filter_append, h]
theorem letsTo_no (a : Int) (k : Nat) (h : hasB a k = false) : letsTo a (k + 1) = letsTo a k := by
  simp [letsTo, List.range_succ, List.filter_append, h]
theorem letsTo_len (a : Int) (k : Nat) : (letsTo a k).length ≤ k := by
  unfold letsTo; refine Nat.le_trans (List.length_filter_le _ _) (by simp)
theorem lets_len (a : Int) : (lets a).length ≤ 6 := letsTo_len a 6
theorem mem_letsTo (a : Int) (k : Nat) (n : Int) : n ∈ letsTo a k ↔ 0 ≤ n ∧ n < k ∧ hasB a n = true := by
  simp only [letsTo, List.mem_filter, List.mem_map, List.mem_range]
  constructor
  · rintro ⟨⟨i, hi, rfl⟩, h⟩; exact ⟨by simp, by simpa using hi, h⟩
  · rintro ⟨h1, h2, h⟩; exact ⟨⟨n.toNat, by omega, by simp; omega⟩, h⟩
theorem mem_lets (a n : Int) : n ∈ lets a ↔ 0 ≤ n ∧ n < 6 ∧ hasB a n = true := mem_letsTo a 6 n
theorem lets_at (a : Int) (j : Nat) (h : j < (lets a).length) : 0 ≤ (lets a)[j] ∧ (lets a)[j] < 6 := by
  have := (mem_lets a _).1 (List.getElem_mem h); omega

end Go.Proofs.Ytkonmpkooimbfaa
