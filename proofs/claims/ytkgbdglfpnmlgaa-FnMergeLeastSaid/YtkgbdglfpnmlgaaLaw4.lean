/- What the laws on merged words say of the plain functions. -/
import Derived.Test.YtkgbdglfpnmlgaaLaw3
import Derived.Test.YtkgbdglfpnmlgaaMrg
namespace Go.Proofs.Ytkgbdglfpnmlgaa
set_option linter.unusedVariables false
set_option linter.unusedSimpArgs false

theorem merge_turned (a b : Int) (v w : List UInt8) : mergeW b a w v = mergeW a b v w := by
  unfold mergeW
  by_cases h : within v a = true ∧ within w b = true ∧ restrL b v = restrL a w
  · obtain ⟨h1, h2, h3⟩ := h
    have h4 := mrg_turned a b v w (within_valid h1).2.2.1 (within_valid h2).2.2.1 h3
    rw [h4, h1, h2, h3]
  · rw [if_neg (fun hh => h ⟨hh.2.1, hh.1, hh.2.2.1.symm⟩), if_neg (fun hh => h ⟨hh.1, hh.2.1, hh.2.2.1⟩)]
theorem merge_none {a b : Int} {v : List UInt8} (hv : within v a = true) (hb : isA b = true) : mergeW a b v [] = if restrL b v = [] then some v else none := by
  obtain ⟨hA, hvv, hall, hlen⟩ := within_valid hv
  unfold mergeW
  have hn : within [] b = true := within_of hb (by simp) rfl
  by_cases h : restrL b v = []
  · rw [mrg_none a b v hall h, if_pos ⟨hv, hn, h, hlen⟩, if_pos h]
  · rw [if_neg (fun hh => h hh.2.2.1), if_neg h]
theorem merge_out {a b : Int} {v w : List UInt8} (h : within v a = false ∨ within w b = false) : mergeW a b v w = none := by
  unfold mergeW
  rw [if_neg]
  rintro ⟨h1, h2, -⟩
  rcases h with h | h
  · rw [h] at h1; cases h1
  · rw [h] at h2; cases h2
theorem merge_some {a b : Int} {v w m : List UInt8} (h : mergeW a b v w = some m) (hv : within v a = true) (hw : within w b = true) :
    restrL b v = restrL a w ∧ within m ((a.toNat ||| b.toNat : Nat) : Int) = true ∧ wvalid m = true ∧ restrL a m = v ∧ restrL b m = w ∧ m.length + (restrL b v).length = v.length + w.length ∧ m.length ≤ 50000 := by
  unfold mergeW at h
  split at h
  · rename_i hh
    injection h with h
    obtain ⟨h1, h2, h3, h4⟩ := hh
    obtain ⟨hA, -, hva, -⟩ := within_valid h1
    obtain ⟨hB, -, hwb, -⟩ := within_valid h2
    obtain ⟨f1, f2, f3, f4⟩ := mrg_facts a b v w hva hwb h3
    obtain ⟨hA0, hA1⟩ := (isA_iff a).1 hA
    obtain ⟨hB0, hB1⟩ := (isA_iff b).1 hB
    subst h
    have ha : ((a.toNat : Nat) : Int) = a := by omega
    have hb : ((b.toNat : Nat) : Int) = b := by omega
    have hall : (mrgL a b v w).all (okL ((a.toNat ||| b.toNat : Nat) : Int)) = true := by
      rw [List.all_eq_true]
      intro c hc
      rw [okL_or, ha, hb]
      rcases f4 c hc with h | h <;> simp [h]
    have hall2 : (mrgL a b v w).all (okL 63) = true := List.all_eq_true.2 fun c hc => okL_63_of (List.all_eq_true.1 hall c hc)
    exact ⟨h3, within_of (or_isA _ _ (by omega) (by omega)) h4 hall, wvalid_of h4 hall2, f1, f2, f3, h4⟩
  · cases h
theorem merge_no {a b : Int} {v w : List UInt8} (h : mergeW a b v w = none) (hv : within v a = true) (hw : within w b = true) :
    restrL b v ≠ restrL a w ∨ (restrL b v = restrL a w ∧ 50000 + (restrL b v).length < v.length + w.length) := by
  by_cases h3 : restrL b v = restrL a w
  · right
    refine ⟨h3, ?_⟩
    obtain ⟨f1, f2, f3, f4⟩ := mrg_facts a b v w (within_valid hv).2.2.1 (within_valid hw).2.2.1 h3
    unfold mergeW at h
    split at h
    · cases h
    · rename_i hh
      have : ¬ (mrgL a b v w).length ≤ 50000 := fun h4 => hh ⟨hv, hw, h3, h4⟩
      omega
  · exact .inl h3
theorem hasB_rest : ∀ a : Nat, a < 64 → (63 - a + (a &&& 9) < 64 ∧ ∀ n : Nat, n < 6 → (63 - a + (a &&& 9)).testBit n = (!a.testBit n || Nat.testBit 9 n)) := by decide
theorem rest_isA (a : Nat) (h : a < 64) : isA ((63 - a + (a &&& 9) : Nat) : Int) = true := (isA_iff _).2 ⟨by omega, by have := (hasB_rest a h).1; omega⟩
theorem okL_rest (a : Nat) (ha : a < 64) (c : UInt8) (h : okL 63 c = true) : okL (a : Int) c = true ∨ okL ((63 - a + (a &&& 9) : Nat) : Int) c = true := by
  have hl : 0 ≤ ltr c := okL_nonneg h
  have hl2 := ltr_lt c
  unfold okL hasB
  rw [Int.toNat_natCast, Int.toNat_natCast, (hasB_rest a ha).2 (ltr c).toNat (by omega)]
  simp only [hl, decide_true, Bool.true_and]
  cases a.testBit (ltr c).toNat <;> simp
theorem restr_len_or (a b : Int) : ∀ l : List UInt8, (∀ c ∈ l, okL a c = true ∨ okL b c = true) → (restrL a l).length + (restrL b l).length = l.length + (restrL b (restrL a l)).length
  | [], _ => rfl
  | c :: l, h => by
    have ih := restr_len_or a b l (fun d hd => h d (List.mem_cons_of_mem _ hd))
    have hc := h c (List.mem_cons_self ..)
    cases h1 : okL a c <;> cases h2 : okL b c
    · rw [h1, h2] at hc; simp at hc
    · rw [restrL_cons_no h1, restrL_cons_yes h2]; simp only [List.length_cons]; omega
    · rw [restrL_cons_yes h1, restrL_cons_no h2, restrL_cons_no h2]; simp only [List.length_cons]; omega
    · rw [restrL_cons_yes h1, restrL_cons_yes h2, restrL_cons_yes h2]; simp only [List.length_cons]; omega
theorem merge_least {a : Nat} (ha : a < 64) {l : List UInt8} (hv : wvalid l = true) :
    ∃ m, mergeW (a : Int) ((63 - a + (a &&& 9) : Nat) : Int) (restrL (a : Int) l) (restrL ((63 - a + (a &&& 9) : Nat) : Int) l) = some m ∧ m.length = l.length ∧ wvalid m = true ∧ lessL l m = false := by
  have hA : isA (a : Int) = true := (isA_iff _).2 ⟨by omega, by omega⟩
  have hB := rest_isA a ha
  have hor : ∀ c ∈ l, okL (a : Int) c = true ∨ okL ((63 - a + (a &&& 9) : Nat) : Int) c = true := fun c hc => okL_rest a ha c (List.all_eq_true.1 (wvalid_all hv) c hc)
  generalize ((63 - a + (a &&& 9) : Nat) : Int) = b at *
  generalize (a : Int) = x at *
  have h1 := restr_within x hA l hv
  have h2 := restr_within b hB l hv
  have h3 : restrL b (restrL x l) = restrL x (restrL b l) := by
    unfold restrL; rw [List.filter_filter, List.filter_filter]; congr 1; funext c; rw [Bool.and_comm]
  obtain ⟨f1, f2, f3, f4⟩ := mrg_facts x b _ _ (within_valid h1).2.2.1 (within_valid h2).2.2.1 h3
  have h4 := restr_len_or x b l hor
  have h5 := mrg_least x b l hor
  have hlen : (mrgL x b (restrL x l) (restrL b l)).length = l.length := by omega
  have hl := wvalid_len hv
  refine ⟨_, if_pos ⟨h1, h2, h3, by omega⟩, hlen, ?_, ?_⟩
  · exact wvalid_of (by omega) (List.all_eq_true.2 fun c hc => by rcases f4 c hc with h | h <;> exact okL_63_of h)
  · simp [lessL, hlen, h5]

end Go.Proofs.Ytkgbdglfpnmlgaa
