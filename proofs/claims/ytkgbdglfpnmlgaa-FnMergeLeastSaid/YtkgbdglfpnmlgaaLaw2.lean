/- What the laws on numbers and orders say of the plain functions. -/
import Derived.Test.YtkgbdglfpnmlgaaLaw
namespace Go.Proofs.Ytkgbdglfpnmlgaa
set_option linter.unusedVariables false
set_option linter.unusedSimpArgs false

theorem wordNum_good {a : Int} {l : List UInt8} (h : within l a = true) (h2 : l.length ≤ 7) : wordNum a l = (numN a l : Int) := if_pos ⟨h, h2⟩
theorem wordNum_bad {a : Int} {l : List UInt8} (h : ¬ (within l a = true ∧ l.length ≤ 7)) : wordNum a l = -1 := if_neg h
theorem wordNum_out {a : Int} {l : List UInt8} (h : within l a = false) : wordNum a l = -1 := wordNum_bad (by rw [h]; simp)
theorem wordNum_long {a : Int} {l : List UInt8} (h : 7 < l.length) : wordNum a l = -1 := wordNum_bad (by omega)
theorem numN_small (a : Int) (l : List UInt8) (h : l.length ≤ 7) : numN a l ≤ 823542 := by
  have h1 := numN_lt a l
  have h2 : 7 ^ l.length ≤ 7 ^ 7 := Nat.pow_le_pow_right (by decide) h
  omega
theorem word_in {a : Int} {l : List UInt8} (hW : within l a = true) (h : l.length ≤ 7) : ∃ z : Nat, z ≤ 823542 ∧ wordNum a l = (z : Int) ∧ wordAt (z : Int) a = some l := by
  obtain ⟨hA, hv, hall, -⟩ := within_valid hW
  exact ⟨numN a l, numN_small a l h, wordNum_good hW h, wordAt_num hA hall h⟩
theorem lets_pos {a : Int} (hA : isA a = true) {l : List UInt8} (hall : l.all (okL a) = true) (h : l ≠ []) : (lets a).length ≠ 0 ∧ a ≠ 0 := by
  cases l with
  | nil => exact absurd rfl h
  | cons c r =>
    have hc : okL a c = true := by simp only [List.all_cons, Bool.and_eq_true] at hall; exact hall.1
    have h1 := (place_ok a hA c hc).1
    refine ⟨by omega, fun h0 => ?_⟩
    subst h0
    rw [lets_zero] at h1
    simp at h1
theorem num_surj (a : Int) (hA : isA a = true) (h0 : (lets a).length ≠ 0) : ∀ m : Nat, ∃ r : List UInt8, r.all (okL a) = true ∧ numN a r = m
  | 0 => ⟨[], rfl, rfl⟩
  | m + 1 => by
    obtain ⟨r, hr, hn⟩ := num_surj a hA h0 m
    obtain ⟨h1, h2, -, -⟩ := nextL_num a hA h0 r hr
    exact ⟨nextL a r, h2, by rw [h1, hn]⟩
theorem nextW_some {a : Int} {l l' : List UInt8} (h : nextW a l = some l') : within l a = true ∧ a ≠ 0 ∧ l' = nextL a l ∧ l'.length ≤ 50000 := by
  unfold nextW at h
  split at h
  · rename_i hh
    injection h with h
    exact ⟨hh.1, hh.2.1, h.symm, by rw [← h]; exact hh.2.2⟩
  · cases h
theorem at_zero {a : Int} {l : List UInt8} (h : wordAt 0 a = some l) : l = [] := by
  obtain ⟨hA, hn, hall, hlen, hnum⟩ := wordAt_some h
  have h0 : numN a l = numN a [] := by show numN a l = 0; omega
  exact num_inj a hA l [] hall rfl h0
theorem at_prev {n a : Int} {l : List UInt8} (h : wordAt n a = some l) (hz : n ≠ 0) : ∃ l', wordAt (n - 1) a = some l' ∧ nextW a l' = some l := by
  obtain ⟨hA, hn, hall, hlen, hnum⟩ := wordAt_some h
  have hne : l ≠ [] := by intro h0; subst h0; have : numN a [] = 0 := rfl; omega
  obtain ⟨h0, ha0⟩ := lets_pos hA hall hne
  obtain ⟨r, hr, hrn⟩ := num_surj a hA h0 (n - 1).toNat
  obtain ⟨h1, h2, h3, h4⟩ := nextL_num a hA h0 r hr
  have he : nextL a r = l := num_inj a hA _ _ h2 hall (by rw [h1, hrn]; omega)
  rw [he] at h3 h4
  refine ⟨r, ?_, ?_⟩
  · have := wordAt_num hA hr (by omega)
    rw [hrn] at this
    rw [← this]; congr 1; omega
  · unfold nextW
    rw [if_pos ⟨within_of hA (by omega) hr, ha0, by rw [he]; omega⟩, he]
/-- two words of an alphabet, by their numbers -/
theorem at_less {n m a : Int} {l k : List UInt8} (h : wordAt n a = some l) (h2 : wordAt m a = some k) : lessL l k = decide (n < m) ∧ wvalid l = true ∧ wvalid k = true := by
  obtain ⟨hA, hn, hall, hlen, hnum⟩ := wordAt_some h
  obtain ⟨-, hn2, hall2, hlen2, hnum2⟩ := wordAt_some h2
  refine ⟨?_, wvalid_of (by omega) (List.all_eq_true.2 fun c hc => okL_63_of (List.all_eq_true.1 hall c hc)), wvalid_of (by omega) (List.all_eq_true.2 fun c hc => okL_63_of (List.all_eq_true.1 hall2 c hc))⟩
  rw [less_num a hA l k hall hall2]
  by_cases h : n < m
  · simp [h]; omega
  · simp [h]; omega
/-- the next word: within, greater, and nothing between -/
theorem next_facts {a : Int} {l l' : List UInt8} (h : nextW a l = some l') : within l' a = true ∧ lessL l l' = true ∧ numN a l' = numN a l + 1 ∧ l.length ≤ l'.length ∧ l'.length ≤ l.length + 1 ∧
    ∀ k : List UInt8, within k a = true → lessL l k = false ∨ lessL k l' = false := by
  obtain ⟨hW, ha0, rfl, hlen⟩ := nextW_some h
  obtain ⟨hA, hv, hall, hl⟩ := within_valid hW
  have h0 : (lets a).length ≠ 0 := lets_ne a hA ha0
  obtain ⟨h1, h2, h3, h4⟩ := nextL_num a hA h0 l hall
  refine ⟨within_of hA hlen h2, ?_, h1, h3, h4, fun k hk => ?_⟩
  · rw [less_num a hA _ _ hall h2, h1]; simp
  · obtain ⟨-, -, hka, -⟩ := within_valid hk
    rw [less_num a hA _ _ hall hka, less_num a hA _ _ hka h2, h1]
    simp only [decide_eq_false_iff_not]; omega

end Go.Proofs.Ytkgbdglfpnmlgaa
