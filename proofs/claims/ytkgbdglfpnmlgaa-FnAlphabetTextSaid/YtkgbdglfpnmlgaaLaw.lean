/- What the laws on words say of the plain functions: restrictions to a complement, to a meet, to a join. -/
import Derived.Test.YtkgbdglfpnmlgaaOrder
namespace Go.Proofs.Ytkgbdglfpnmlgaa
set_option linter.unusedVariables false
set_option linter.unusedSimpArgs false

theorem hasB_comp : ∀ a : Nat, a < 64 → ∀ n : Nat, n < 6 → (63 - a).testBit n = !a.testBit n := by decide
theorem okL_comp (a : Int) (ha : isA a = true) (c : UInt8) (h : okL 63 c = true) : okL (63 - a) c = !okL a c := by
  obtain ⟨h0, h1⟩ := (isA_iff a).1 ha
  obtain ⟨x, rfl⟩ := Int.eq_ofNat_of_zero_le h0
  have hl : 0 ≤ ltr c := okL_nonneg h
  have hl2 := ltr_lt c
  have e : (63 - (x : Int)).toNat = 63 - x := by omega
  unfold okL hasB
  rw [e, Int.toNat_natCast, hasB_comp x (by omega) (ltr c).toNat (by omega)]
  simp [hl]
theorem okL_and (a b : Nat) (c : UInt8) : okL ((a &&& b : Nat) : Int) c = (okL (a : Int) c && okL (b : Int) c) := by
  unfold okL hasB
  simp only [Int.toNat_natCast, Nat.testBit_and]
  by_cases h : 0 ≤ ltr c <;> simp [h]
theorem okL_or (a b : Nat) (c : UInt8) : okL ((a ||| b : Nat) : Int) c = (okL (a : Int) c || okL (b : Int) c) := by
  unfold okL hasB
  simp only [Int.toNat_natCast, Nat.testBit_or]
  by_cases h : 0 ≤ ltr c <;> simp [h]
theorem wvalid_len {l : List UInt8} (h : wvalid l = true) : l.length ≤ 50000 := by
  simp only [wvalid, Bool.and_eq_true, decide_eq_true_eq] at h; exact h.1
theorem wvalid_all {l : List UInt8} (h : wvalid l = true) : l.all (okL 63) = true := by
  simp only [wvalid, Bool.and_eq_true, decide_eq_true_eq] at h; exact h.2
theorem wvalid_of {l : List UInt8} (h : l.length ≤ 50000) (h2 : l.all (okL 63) = true) : wvalid l = true := by
  simp [wvalid, h, h2]
theorem restr_comp (a : Int) (ha : isA a = true) : ∀ l : List UInt8, l.all (okL 63) = true → (restrL a l).length + (restrL (63 - a) l).length = l.length ∧ (l.all (okL a) = true ↔ restrL (63 - a) l = [])
  | [], _ => ⟨rfl, by simp [restrL]⟩
  | c :: l, h => by
    simp only [List.all_cons, Bool.and_eq_true] at h
    obtain ⟨ih1, ih2⟩ := restr_comp a ha l h.2
    have hc := okL_comp a ha c h.1
    unfold restrL at ih1 ih2 ⊢
    cases ho : okL a c <;> rw [ho] at hc
    · refine ⟨?_, ?_⟩
      · simp only [List.filter_cons, ho, hc, Bool.not_false, if_true, List.length_cons, Bool.false_eq_true, if_false]; omega
      · simp [ho, hc]
    · refine ⟨?_, ?_⟩
      · simp only [List.filter_cons, ho, hc, Bool.not_true, if_true, List.length_cons, Bool.false_eq_true, if_false]; omega
      · simp only [List.all_cons, ho, Bool.true_and, List.filter_cons, hc, Bool.not_true, Bool.false_eq_true, if_false]
        exact ih2
theorem restr_wvalid (a : Int) (l : List UInt8) (h : wvalid l = true) : wvalid (restrL a l) = true :=
  wvalid_of (Nat.le_trans (restrL_len a l) (wvalid_len h)) (List.all_eq_true.2 fun c hc => List.all_eq_true.1 (wvalid_all h) c (List.mem_filter.1 hc).1)
theorem restr_within (a : Int) (ha : isA a = true) (l : List UInt8) (h : wvalid l = true) : within (restrL a l) a = true := by
  have h1 : (restrL a l).all (okL a) = true := List.all_eq_true.2 fun c hc => (List.mem_filter.1 hc).2
  simp only [within, ha, h1, Bool.true_and, Bool.and_true, decide_eq_true_eq]
  exact wvalid_len (restr_wvalid a l h)
theorem restr_restr (a b : Nat) (l : List UInt8) : restrL (b : Int) (restrL (a : Int) l) = restrL ((a &&& b : Nat) : Int) l := by
  unfold restrL
  rw [List.filter_filter]
  congr 1
  funext c
  rw [okL_and, Bool.and_comm]
theorem restr_self (a : Int) (l : List UInt8) : restrL a (restrL a l) = restrL a l := by
  unfold restrL; rw [List.filter_filter]; congr 1; funext c; simp
theorem within_and {l : List UInt8} {a b : Nat} (ha : a < 64) (hb : b < 64) (h : within l (a : Int) = true) (h2 : within l (b : Int) = true) : within l ((a &&& b : Nat) : Int) = true := by
  simp only [within, Bool.and_eq_true, decide_eq_true_eq, List.all_eq_true] at h h2 ⊢
  refine ⟨⟨(isA_iff _).2 ⟨by omega, ?_⟩, h.1.2⟩, fun c hc => ?_⟩
  · have : a &&& b ≤ a := Nat.and_le_left; omega
  · rw [okL_and, h.2 c hc, h2.2 c hc]; rfl
theorem within_valid {l : List UInt8} {a : Int} (h : within l a = true) : isA a = true ∧ wvalid l = true ∧ l.all (okL a) = true ∧ l.length ≤ 50000 := by
  simp only [within, Bool.and_eq_true, decide_eq_true_eq] at h
  refine ⟨h.1.1, wvalid_of h.1.2 (List.all_eq_true.2 fun c hc => okL_63_of (List.all_eq_true.1 h.2 c hc)), h.2, h.1.2⟩
theorem within_of {l : List UInt8} {a : Int} (ha : isA a = true) (h : l.length ≤ 50000) (h2 : l.all (okL a) = true) : within l a = true := by
  simp [within, ha, h, h2]
theorem and_isA (a b : Nat) (ha : a < 64) : isA ((a &&& b : Nat) : Int) = true := by
  have : a &&& b ≤ a := Nat.and_le_left
  exact (isA_iff _).2 ⟨by omega, by omega⟩
theorem or_isA (a b : Nat) (ha : a < 64) (hb : b < 64) : isA ((a ||| b : Nat) : Int) = true := by
  have : a ||| b < 2 ^ 6 := Nat.or_lt_two_pow (by omega) (by omega)
  exact (isA_iff _).2 ⟨by omega, by omega⟩

end Go.Proofs.Ytkgbdglfpnmlgaa
