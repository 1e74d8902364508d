/- What the laws on the order of words say of the plain functions. -/
import Derived.Test.YtkgbdglfpnmlgaaLaw2
namespace Go.Proofs.Ytkgbdglfpnmlgaa
set_option linter.unusedVariables false
set_option linter.unusedSimpArgs false

theorem isA_63 : isA 63 = true := by decide
theorem lets_63 : (lets 63).length = 6 := by decide
theorem order_cases {l m : List UInt8} (hl : wvalid l = true) (hm : wvalid m = true) :
    (l = m ∧ lessL l m = false ∧ lessL m l = false) ∨ (l ≠ m ∧ lessL l m = true ∧ lessL m l = false) ∨ (l ≠ m ∧ lessL l m = false ∧ lessL m l = true) := by
  rw [less_num 63 isA_63 l m (wvalid_all hl) (wvalid_all hm), less_num 63 isA_63 m l (wvalid_all hm) (wvalid_all hl)]
  by_cases h : numN 63 l = numN 63 m
  · exact .inl ⟨num_inj 63 isA_63 l m (wvalid_all hl) (wvalid_all hm) h, by simp [h], by simp [h]⟩
  · have hne : l ≠ m := fun h2 => h (by rw [h2])
    by_cases h2 : numN 63 l < numN 63 m
    · exact .inr (.inl ⟨hne, by simp [h2], by simp; omega⟩)
    · exact .inr (.inr ⟨hne, by simp; omega, by simp; omega⟩)
theorem okL_letter : okL 63 99 = true ∧ okL 63 97 = true := by decide
theorem less_front (c : UInt8) (l m : List UInt8) : lessL (c :: l) (c :: m) = lessL l m := by
  unfold lessL
  have h : Op.bytesLess (c :: l) (c :: m) = Op.bytesLess l m := by simp [Op.bytesLess]
  rw [h]; simp
theorem less_back (c : UInt8) (hc : okL 63 c = true) {l m : List UInt8} (hl : wvalid l = true) (hm : wvalid m = true) : lessL (l ++ [c]) (m ++ [c]) = lessL l m := by
  have h1 : (l ++ [c]).all (okL 63) = true := by simp [List.all_append, wvalid_all hl, hc]
  have h2 : (m ++ [c]).all (okL 63) = true := by simp [List.all_append, wvalid_all hm, hc]
  rw [less_num 63 isA_63 _ _ h1 h2, less_num 63 isA_63 l m (wvalid_all hl) (wvalid_all hm), numN_snoc, numN_snoc, lets_63]
  by_cases h : numN 63 l < numN 63 m
  · simp [h]
  · simp [h]
theorem less_more (c : UInt8) (l : List UInt8) : lessL l (l ++ [c]) = true := by simp [lessL]
theorem valid_front {c : UInt8} (hc : okL 63 c = true) {l : List UInt8} (hl : wvalid l = true) (h : l.length < 50000) : wvalid (c :: l) = true :=
  wvalid_of (by simp; omega) (by simp [List.all_cons, wvalid_all hl, hc])
theorem valid_back {c : UInt8} (hc : okL 63 c = true) {l : List UInt8} (hl : wvalid l = true) (h : l.length < 50000) : wvalid (l ++ [c]) = true :=
  wvalid_of (by simp; omega) (by simp [List.all_append, wvalid_all hl, hc])

end Go.Proofs.Ytkgbdglfpnmlgaa
