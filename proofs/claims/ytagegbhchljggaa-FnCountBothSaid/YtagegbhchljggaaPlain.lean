/- The plain mathematics of words and alphabets: no program in sight. -/
namespace Go.Proofs.Ytagegbhchljggaa
set_option linter.unusedVariables false
set_option linter.unusedSimpArgs false

/-- A number is the number of an alphabet. -/
def isA (n : Int) : Bool := decide (0 ≤ n ∧ n ≤ 63)
theorem isA_iff (n : Int) : isA n = true ↔ 0 ≤ n ∧ n ≤ 63 := by simp [isA]
theorem isA_no (n : Int) : isA n = false ↔ ¬ (0 ≤ n ∧ n ≤ 63) := by simp [isA]
/-- The number of a letter, or -1. -/
def ltr (c : UInt8) : Int := if 97 ≤ c.toNat ∧ c.toNat < 103 then (c.toNat : Int) - 97 else -1
/-- Whether a set has a number. -/
def hasB (s n : Int) : Bool := decide (0 ≤ n) && s.toNat.testBit n.toNat


theorem hasB_nat (s n : Nat) : hasB (s : Int) (n : Int) = s.testBit n := by simp [hasB]
theorem hasB_neg (s n : Int) (h : n < 0) : hasB s n = false := by simp [hasB]; omega

/-- The numbers below k of a set, ascending. -/
def letsTo (a : Int) (k : Nat) : List Int := ((List.range k).map Int.ofNat).filter (hasB a)
/-- The numbers of the letters of an alphabet. -/
def lets (a : Int) : List Int := letsTo a 6
theorem letsTo_zero (a : Int) : letsTo a 0 = [] := rfl
theorem letsTo_yes (a : Int) (k : Nat) (h : hasB a k = true) : letsTo a (k + 1) = letsTo a k ++ [(k : Int)] := by
  simp [letsTo, List.range_succ, List.filter_append, h]
theorem letsTo_no (a : Int) (k : Nat) (h : hasB a k = false) : letsTo a (k + 1) = letsTo a k := by
  simp [letsTo, List.range_succ, List.filter_append, h]
theorem letsTo_len (a : Int) (k : Nat) : (letsTo a k).length ≤ k := by
  unfold letsTo; refine Nat.le_trans (List.length_filter_le _ _) (by simp)
theorem lets_len (a : Int) : (lets a).length ≤ 6 := letsTo_len a 6
theorem mem_letsTo (a : Int) (k : Nat) (n : Int) : n ∈ letsTo a k ↔ 0 ≤ n ∧ n < k ∧ hasB a n = true := by
  simp only [letsTo, List.mem_filter, List.mem_map, List.mem_range]
  constructor
  · rintro ⟨⟨i, hi, rfl⟩, h⟩; exact ⟨by simp, by simpa using hi, h⟩
  · rintro ⟨h1, h2, h⟩; exact ⟨⟨n.toNat, by omega, by simp; omega⟩, h⟩
theorem mem_lets (a n : Int) : n ∈ lets a ↔ 0 ≤ n ∧ n < 6 ∧ hasB a n = true := mem_letsTo a 6 n
theorem lets_at (a : Int) (j : Nat) (h : j < (lets a).length) : 0 ≤ (lets a)[j] ∧ (lets a)[j] < 6 := by
  have := (mem_lets a _).1 (List.getElem_mem h); omega


theorem ltr_ge (c : UInt8) : -1 ≤ ltr c := by unfold ltr; split <;> omega
theorem ltr_lt (c : UInt8) : ltr c < 6 := by unfold ltr; split <;> omega
theorem hasB_63 (n : Int) (h : n < 6) : hasB 63 n = decide (0 ≤ n) := by
  by_cases h0 : 0 ≤ n
  · have : n = 0 ∨ n = 1 ∨ n = 2 ∨ n = 3 ∨ n = 4 ∨ n = 5 := by omega
    rcases this with rfl | rfl | rfl | rfl | rfl | rfl <;> decide
  · simp [hasB, h0]

/-- The letter c is in the alphabet a. -/
def okL (a : Int) (c : UInt8) : Bool := hasB a (ltr c)
def within (l : List UInt8) (a : Int) : Bool := isA a && decide (l.length ≤ 50000) && l.all (okL a)
def wvalid (l : List UInt8) : Bool := decide (l.length ≤ 50000) && l.all (okL 63)
theorem within63 (l : List UInt8) : within l 63 = wvalid l := by simp [within, wvalid, isA]
theorem okL_63 (c : UInt8) : okL 63 c = decide (0 ≤ ltr c) := hasB_63 _ (ltr_lt c)
theorem okL_nonneg {a : Int} {c : UInt8} (h : okL a c = true) : 0 ≤ ltr c := by
  simp [okL, hasB] at h; exact h.1
theorem okL_63_of {a : Int} {c : UInt8} (h : okL a c = true) : okL 63 c = true := by
  rw [okL_63]; simpa using okL_nonneg h

theorem take_snoc (s : ByteArray) (k : Nat) (h : k < s.size) : s.data.toList.take (k + 1) = s.data.toList.take k ++ [s[k]] := by
  rw [List.take_succ_eq_append_getElem (by simpa using h)]; rfl
theorem take_all (s : ByteArray) : s.data.toList.take s.size = s.data.toList := List.take_of_length_le (Nat.le_of_eq rfl)
theorem data_len (s : ByteArray) : s.data.toList.length = s.size := rfl
theorem size_of {r : ByteArray} {l : List UInt8} (h : r.data.toList = l) : r.size = l.length := by rw [← h]; rfl
theorem data_at (s : ByteArray) (k : Nat) (h : k < s.size) : s.data.toList[k]'(by rw [data_len]; exact h) = s[k] := rfl
theorem all_take (s : ByteArray) (p : UInt8 → Bool) (k : Nat) (h : k < s.size) (h1 : (s.data.toList.take k).all p = true) (h2 : p s[k] = true) : (s.data.toList.take (k + 1)).all p = true := by
  rw [take_snoc s k h]; simp [h1, h2]
theorem all_not (s : ByteArray) (p : UInt8 → Bool) (k : Nat) (h : k < s.size) (h2 : p s[k] = false) : s.data.toList.all p = false := by
  rw [Bool.eq_false_iff]; intro hall
  have := List.all_eq_true.1 hall s[k] (by have : s[k] = s.data.toList[k]'(by rw [data_len]; exact h) := rfl; rw [this]; exact List.getElem_mem _)
  rw [h2] at this; cases this
theorem all_at (s : ByteArray) (p : UInt8 → Bool) (k : Nat) (h : k < s.size) (hall : s.data.toList.all p = true) : p s[k] = true :=
  List.all_eq_true.1 hall s[k] (by have : s[k] = s.data.toList[k]'(by rw [data_len]; exact h) := rfl; rw [this]; exact List.getElem_mem _)

/-- The set of the letters of a word. -/
def alphN (l : List UInt8) : Nat := l.foldl (fun acc c => acc ||| 2 ^ (ltr c).toNat) 0
theorem alphN_snoc (l : List UInt8) (c : UInt8) : alphN (l ++ [c]) = alphN l ||| 2 ^ (ltr c).toNat := by simp [alphN, List.foldl_append]
theorem alphN_bit (l : List UInt8) (j : Nat) : (alphN l).testBit j = l.any (fun c => decide ((ltr c).toNat = j)) := by
  have : ∀ (l : List UInt8) (acc : Nat), (l.foldl (fun acc c => acc ||| 2 ^ (ltr c).toNat) acc).testBit j = (acc.testBit j || l.any (fun c => decide ((ltr c).toNat = j))) := by
    intro l
    induction l with
    | nil => intro acc; simp
    | cons c l ih => intro acc; simp only [List.foldl_cons, ih, Nat.testBit_or, Nat.testBit_two_pow, List.any_cons, Bool.or_assoc]
  have h := this l 0
  rw [Nat.zero_testBit, Bool.false_or] at h
  exact h
theorem alphN_lt (l : List UInt8) : alphN l < 64 := by
  have : ∀ (l : List UInt8) (acc : Nat), acc < 2 ^ 6 → l.foldl (fun acc c => acc ||| 2 ^ (ltr c).toNat) acc < 2 ^ 6 := by
    intro l
    induction l with
    | nil => intro acc h; simpa using h
    | cons c l ih => intro acc h; exact ih _ (Nat.or_lt_two_pow h (Nat.pow_lt_pow_right (by decide) (by have := ltr_lt c; omega)))
  exact this l 0 (by decide)
theorem and_eq_self (x y : Nat) : (x &&& y = x) ↔ ∀ j, x.testBit j = true → y.testBit j = true := by
  constructor
  · intro h j hx; have := congrArg (fun n => n.testBit j) h; simp only [Nat.testBit_and, hx, Bool.true_and] at this; exact this
  · intro h; apply Nat.eq_of_testBit_eq; intro j; rw [Nat.testBit_and]; cases hx : x.testBit j with
    | false => rfl
    | true => rw [h j hx]; rfl
/-- The test of the reference: the letters of a word lie in an alphabet. -/
theorem alphN_sub (l : List UInt8) (a : Nat) (hl : l.all (okL 63) = true) : decide (alphN l &&& a = alphN l) = l.all (okL (a : Int)) := by
  rw [Bool.eq_iff_iff, decide_eq_true_iff, and_eq_self, List.all_eq_true]
  rw [List.all_eq_true] at hl
  constructor
  · intro h c hc
    have h0 := okL_nonneg (hl c hc)
    have := h (ltr c).toNat (by rw [alphN_bit, List.any_eq_true]; exact ⟨c, hc, by simp⟩)
    simp [okL, hasB, h0, this]
  · intro h j hj
    rw [alphN_bit, List.any_eq_true] at hj
    obtain ⟨c, hc, he⟩ := hj
    have := h c hc
    simp [okL, hasB] at this
    have he' : (ltr c).toNat = j := by simpa using he
    rw [← he']; exact this.2

/-- The restriction of a word. -/
def restrL (a : Int) (l : List UInt8) : List UInt8 := l.filter (okL a)
theorem restrL_yes (s : ByteArray) (a : Int) (k : Nat) (h : k < s.size) (h2 : okL a s[k] = true) : restrL a (s.data.toList.take (k + 1)) = restrL a (s.data.toList.take k) ++ [s[k]] := by
  rw [take_snoc s k h]; simp [restrL, List.filter_append, h2]
theorem restrL_no (s : ByteArray) (a : Int) (k : Nat) (h : k < s.size) (h2 : okL a s[k] = false) : restrL a (s.data.toList.take (k + 1)) = restrL a (s.data.toList.take k) := by
  rw [take_snoc s k h]; simp [restrL, List.filter_append, h2]
theorem restrL_len (a : Int) (l : List UInt8) : (restrL a l).length ≤ l.length := List.length_filter_le _ _

/-- The byte of a letter's number. -/
def lb (n : Int) : UInt8 := UInt8.ofNat (97 + n.toNat)
theorem lb_nat (n : Int) (h0 : 0 ≤ n) (h1 : n < 6) : ((lb n).toNat : Int) = 97 + n := by
  unfold lb
  rw [UInt8.toNat_ofNat']
  have : (97 + n.toNat) % 2 ^ 8 = 97 + n.toNat := Nat.mod_eq_of_lt (by omega)
  rw [this]; omega
theorem ltr_lb (n : Int) (h0 : 0 ≤ n) (h1 : n < 6) : ltr (lb n) = n := by
  have := lb_nat n h0 h1
  unfold ltr; rw [if_pos (by omega)]; omega
theorem lb_ltr (c : UInt8) (h : 0 ≤ ltr c) : lb (ltr c) = c := by
  apply UInt8.toNat_inj.1
  have h2 := lb_nat (ltr c) h (ltr_lt c)
  unfold ltr at *
  split at h
  · rename_i hh; rw [if_pos hh] at h2 ⊢; omega
  · omega

/-- The text of an alphabet. -/
def fmtA (a : Int) : List UInt8 := if isA a = false then [] else if a = 0 then [45] else (lets a).map lb
theorem lets_ne (a : Int) (h : isA a = true) (h0 : a ≠ 0) : (lets a).length ≠ 0 := by
  obtain ⟨h1, h2⟩ := (isA_iff a).1 h
  have key : ∀ n : Fin 64, n.val ≠ 0 → (lets (n.val : Int)).length ≠ 0 := by decide
  obtain ⟨n, rfl⟩ := Int.eq_ofNat_of_zero_le h1
  exact key ⟨n, by omega⟩ (by simpa using h0)
theorem lets_zero : lets 0 = [] := by decide

/-- Numbers to words: the digits that are still to come, in front of those that are there. -/
def wat (xs : List Int) : Nat → Nat → List UInt8 → Option (List UInt8)
  | _, 0, out => some out
  | 0, _ + 1, _ => none
  | f + 1, m + 1, out => if xs.length = 0 then none else wat xs f (m / xs.length) (lb (xs[m % xs.length]?.getD 0) :: out)
def wordAt (n a : Int) : Option (List UInt8) := if isA a = true ∧ 0 ≤ n then wat (lets a) 7 n.toNat [] else none
theorem wat_zero (xs : List Int) (f : Nat) (out : List UInt8) : wat xs f 0 out = some out := by cases f <;> rfl
theorem wat_full (xs : List Int) (m : Nat) (out : List UInt8) (h : 0 < m) : wat xs 0 m out = none := by
  obtain ⟨k, rfl⟩ : ∃ k, m = k + 1 := ⟨m - 1, by omega⟩
  rfl
theorem wat_none (xs : List Int) (f m : Nat) (out : List UInt8) (h : 0 < m) (hx : xs.length = 0) : wat xs f m out = none := by
  obtain ⟨k, rfl⟩ : ∃ k, m = k + 1 := ⟨m - 1, by omega⟩
  cases f with
  | zero => rfl
  | succ f => simp [wat, hx]
theorem wat_step (xs : List Int) (f m : Nat) (out : List UInt8) (h : 0 < m) (hx : xs.length ≠ 0) : wat xs (f + 1) m out = wat xs f ((m - 1) / xs.length) (lb (xs[(m - 1) % xs.length]?.getD 0) :: out) := by
  obtain ⟨k, rfl⟩ : ∃ k, m = k + 1 := ⟨m - 1, by omega⟩
  simp [wat, hx]

/-- The place of a number in a list, or -1. -/
def idxFrom : List Int → Int → Nat → Int
  | [], _, _ => -1
  | y :: ys, x, k => if y = x then (k : Int) else idxFrom ys x (k + 1)
def idxI (xs : List Int) (x : Int) : Int := idxFrom xs x 0
theorem idx_yes (xs : List Int) (x : Int) (k : Nat) (h : k < xs.length) (he : xs[k]?.getD 0 = x) : idxFrom (xs.drop k) x k = k := by
  rw [List.drop_eq_getElem_cons h]; rw [List.getElem?_eq_getElem h] at he
  simp only [Option.getD_some] at he
  simp [idxFrom, he]
theorem idx_no (xs : List Int) (x : Int) (k : Nat) (h : k < xs.length) (he : xs[k]?.getD 0 ≠ x) : idxFrom (xs.drop k) x k = idxFrom (xs.drop (k + 1)) x (k + 1) := by
  rw [List.drop_eq_getElem_cons h]; rw [List.getElem?_eq_getElem h] at he
  simp only [Option.getD_some] at he
  simp [idxFrom, he]
/-- How many letters of an alphabet lie below one. -/
def placeN (a x : Int) : Nat := (letsTo a x.toNat).length
theorem idx_place (a x : Int) (ha : isA a = true) (h0 : 0 ≤ x) (h1 : x < 6) (hh : hasB a x = true) : idxI (lets a) x = placeN a x ∧ placeN a x < (lets a).length ∧ (lets a)[placeN a x]?.getD 0 = x := by
  obtain ⟨h2, h3⟩ := (isA_iff a).1 ha
  have key : ∀ n : Fin 64, ∀ y : Fin 6, hasB (n.val : Int) (y.val : Int) = true → idxI (lets (n.val : Int)) (y.val : Int) = placeN (n.val : Int) (y.val : Int) ∧ placeN (n.val : Int) (y.val : Int) < (lets (n.val : Int)).length ∧ (lets (n.val : Int))[placeN (n.val : Int) (y.val : Int)]?.getD 0 = (y.val : Int) := by decide +kernel
  obtain ⟨n, rfl⟩ := Int.eq_ofNat_of_zero_le h2
  obtain ⟨y, rfl⟩ := Int.eq_ofNat_of_zero_le h0
  exact key ⟨n, by omega⟩ ⟨y, by omega⟩ hh
theorem placeN_le (a x : Int) : placeN a x ≤ x.toNat := letsTo_len a x.toNat

/-- The number of a word over an alphabet. -/
def numN (a : Int) (l : List UInt8) : Nat := l.foldl (fun n c => n * (lets a).length + placeN a (ltr c) + 1) 0
theorem numN_snoc (a : Int) (l : List UInt8) (c : UInt8) : numN a (l ++ [c]) = numN a l * (lets a).length + placeN a (ltr c) + 1 := by simp [numN, List.foldl_append]
theorem numN_lt (a : Int) (l : List UInt8) : numN a l < 7 ^ l.length := by
  have : ∀ (l : List UInt8) (n k : Nat), n < 7 ^ k → l.foldl (fun n c => n * (lets a).length + placeN a (ltr c) + 1) n < 7 ^ (k + l.length) := by
    intro l
    induction l with
    | nil => intro n k h; simpa using h
    | cons c l ih =>
      intro n k h
      have h1 := lets_len a
      have h2 : placeN a (ltr c) ≤ 5 := by have := placeN_le a (ltr c); have := ltr_lt c; omega
      have h3 : n * (lets a).length ≤ n * 6 := Nat.mul_le_mul_left _ h1
      have h4 : n * (lets a).length + placeN a (ltr c) + 1 < 7 ^ (k + 1) := by rw [Nat.pow_succ]; omega
      have := ih _ (k + 1) h4
      simpa [Nat.add_assoc, Nat.add_comm 1] using this
  simpa [numN] using this l 0 0 (by decide)
def wordNum (a : Int) (l : List UInt8) : Int := if within l a = true ∧ l.length ≤ 7 then (numN a l : Int) else -1

def cmpI (x y : Int) : Int := if x < y then -1 else if y < x then 1 else 0
/-- The first number that is not 0. -/
def orL : List Int → Int
  | [] => 0
  | x :: xs => if x = 0 then orL xs else x

/-- The set of the letters that occur in a text, whatever else it holds. -/
def alphS (l : List UInt8) : Nat := l.foldl (fun acc c => if 0 ≤ ltr c then acc ||| 2 ^ (ltr c).toNat else acc) 0
theorem alphS_yes (l : List UInt8) (c : UInt8) (h : 0 ≤ ltr c) : alphS (l ++ [c]) = alphS l ||| 2 ^ (ltr c).toNat := by simp [alphS, List.foldl_append, h]
theorem alphS_no (l : List UInt8) (c : UInt8) (h : ¬ 0 ≤ ltr c) : alphS (l ++ [c]) = alphS l := by simp [alphS, List.foldl_append, h]
theorem alphS_lt (l : List UInt8) : alphS l < 64 := by
  have : ∀ (l : List UInt8) (acc : Nat), acc < 2 ^ 6 → l.foldl (fun acc c => if 0 ≤ ltr c then acc ||| 2 ^ (ltr c).toNat else acc) acc < 2 ^ 6 := by
    intro l
    induction l with
    | nil => intro acc h; simpa using h
    | cons c l ih =>
      intro acc h
      refine ih _ ?_
      show (if 0 ≤ ltr c then acc ||| 2 ^ (ltr c).toNat else acc) < 2 ^ 6
      split
      · exact Nat.or_lt_two_pow h (Nat.pow_lt_pow_right (by decide) (by have := ltr_lt c; omega))
      · exact h
  exact this l 0 (by decide)
theorem alphS_fmt (n : Nat) (h : n < 64) : alphS (fmtA (n : Int)) = n := by
  have key : ∀ n : Fin 64, alphS (fmtA (n.val : Int)) = n.val := by decide +kernel
  exact key ⟨n, h⟩
def parseB (l : List UInt8) : Bool := decide (fmtA (alphS l : Int) = l)
def parseN (l : List UInt8) : Nat := if parseB l = true then alphS l else 0

end Go.Proofs.Ytagegbhchljggaa
