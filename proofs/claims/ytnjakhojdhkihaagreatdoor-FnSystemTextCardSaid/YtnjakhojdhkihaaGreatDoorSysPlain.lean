/- What systems do, in plain Lean: steps over edges, runs, reachable states. -/
import Derived.Test.YtnjakhojdhkihaaGreatDoorSysValid
import Derived.Lib.TrailingZeros
namespace Go.Proofs.YtnjakhojdhkihaaGreatDoor
open Go.RowKit
set_option linter.unusedVariables false
set_option linter.unusedSimpArgs false

/-- The states to which a letter leads from a set of states. -/
def stepN (es : List Edg) (s : Nat) (x : Int) : Nat := es.foldl (fun o e => if e.2.1 = x ∧ hasB (s : Int) e.1 = true then o ||| 2 ^ e.2.2.toNat else o) 0
theorem stepN_nil (s : Nat) (x : Int) : stepN [] s x = 0 := rfl
theorem stepN_yes (es : List Edg) (s : Nat) (x : Int) (e : Edg) (h : e.2.1 = x) (h2 : hasB (s : Int) e.1 = true) : stepN (es ++ [e]) s x = stepN es s x ||| 2 ^ e.2.2.toNat := by simp [stepN, List.foldl_append, h, h2]
theorem stepN_no (es : List Edg) (s : Nat) (x : Int) (e : Edg) (h : ¬ (e.2.1 = x ∧ hasB (s : Int) e.1 = true)) : stepN (es ++ [e]) s x = stepN es s x := by simp only [stepN, List.foldl_append, List.foldl_cons, List.foldl_nil, if_neg h]
theorem foldl_bit {α : Type} (p : α → Prop) [DecidablePred p] (t : α → Nat) (l : List α) (j : Nat) : ∀ o : Nat, (l.foldl (fun o e => if p e then o ||| 2 ^ t e else o) o).testBit j = (o.testBit j || l.any (fun e => decide (p e ∧ t e = j))) := by
  induction l with
  | nil => intro o; simp
  | cons a r ih =>
    intro o
    rw [List.foldl_cons, ih, List.any_cons]
    by_cases h : p a
    · rw [if_pos h, Nat.testBit_or, Nat.testBit_two_pow]
      simp [h, Bool.or_assoc]
    · rw [if_neg h]
      simp [h]
theorem stepN_bit (es : List Edg) (s : Nat) (x : Int) (j : Nat) : (stepN es s x).testBit j = es.any (fun e => decide ((e.2.1 = x ∧ hasB (s : Int) e.1 = true) ∧ e.2.2.toNat = j)) := by
  rw [stepN, foldl_bit]; simp
theorem take_snoc_e (es : List Edg) (k : Nat) (h : k < es.length) : es.take (k + 1) = es.take k ++ [Edg.at es k] := by
  unfold Edg.at
  rw [List.take_add_one, List.getElem?_eq_getElem h]; rfl
/-- Every edge lies within sixteen states and six letters. -/
def OkE (es : List Edg) : Prop := ∀ e ∈ es, (0 ≤ e.1 ∧ e.1 < 16) ∧ (0 ≤ e.2.1 ∧ e.2.1 < 6) ∧ 0 ≤ e.2.2 ∧ e.2.2 < 16
theorem OkE.at {es : List Edg} (h : OkE es) (k : Nat) (hk : k < es.length) : (0 ≤ (Edg.at es k).1 ∧ (Edg.at es k).1 < 16) ∧ (0 ≤ (Edg.at es k).2.1 ∧ (Edg.at es k).2.1 < 6) ∧ 0 ≤ (Edg.at es k).2.2 ∧ (Edg.at es k).2.2 < 16 := by
  refine h _ ?_
  unfold Edg.at
  rw [List.getElem?_eq_getElem hk]
  exact List.getElem_mem _
theorem sysV_facts {al st : Int} {es : List Edg} (h : sysV al st es = true) : isA al = true ∧ 1 ≤ st ∧ st ≤ 16 ∧ ∀ e ∈ es, edgeOK al st e = true := by
  unfold sysV at h
  simp only [Bool.and_eq_true, decide_eq_true_eq, List.all_eq_true, stepOK] at h
  obtain ⟨h1, ⟨h2, h3⟩, h4⟩ := h
  refine ⟨h1, h2, h3, fun e he => ?_⟩
  obtain ⟨k, hk, rfl⟩ := List.mem_iff_getElem.1 he
  have := (h4 k (List.mem_range.2 hk)).1
  unfold Edg.at at this
  rwa [List.getElem?_eq_getElem hk] at this
theorem edgeOK_facts {al st : Int} {e : Edg} (h : edgeOK al st e = true) : (0 ≤ e.1 ∧ e.1 < st) ∧ (0 ≤ e.2.2 ∧ e.2.2 < st) ∧ e.2.1 < 6 ∧ hasB al e.2.1 = true := by
  simpa [edgeOK, Bool.and_eq_true] using h
theorem sysV_ok {al st : Int} {es : List Edg} (h : sysV al st es = true) : OkE es := by
  obtain ⟨h1, h2, h3, h4⟩ := sysV_facts h
  intro e he
  obtain ⟨⟨q1, q2⟩, ⟨q3, q4⟩, q5, q6⟩ := edgeOK_facts (h4 e he)
  have : 0 ≤ e.2.1 := by
    simp only [hasB, Bool.and_eq_true, decide_eq_true_eq] at q6
    exact q6.1
  omega
theorem lt_of_bits {n k : Nat} (h : ∀ j, k ≤ j → n.testBit j = false) : n < 2 ^ k := Nat.lt_pow_two_of_testBit n h
theorem stepN_lt {es : List Edg} (h : OkE es) (s : Nat) (x : Int) : stepN es s x < 65536 := by
  refine lt_of_bits (k := 16) (fun j hj => ?_)
  rw [stepN_bit, List.any_eq_false]
  intro e he
  have := h e he
  simp
  omega
theorem hasB_zero (x : Int) : hasB 0 x = false := by simp [hasB]
theorem stepN_zero (es : List Edg) (x : Int) : stepN es 0 x = 0 := by
  refine Nat.eq_of_testBit_eq (fun j => ?_)
  rw [stepN_bit, Nat.zero_testBit, List.any_eq_false]
  intro e he
  have : hasB 0 e.1 = false := hasB_zero _
  simp [this]
/-- The least number of a set is taken out. -/
theorem low_bit (s : Nat) (h0 : s ≠ 0) (h : s < 18446744073709551616) (i : Nat) : s.testBit i = (decide (i = Lib.ctz 64 s) || (s &&& (s - 1)).testBit i) := by
  obtain ⟨m, hm, hq⟩ := Lib.ctzFrom_spec 64 s (by omega) h
  have e0 : Lib.ctz 64 s = Lib.ctzFrom 64 s := by
    first
      | rfl
      | simp [Lib.ctz, h0]
  rw [e0]
  generalize Lib.ctzFrom 64 s = q at hm hq ⊢
  have hp : 0 < 2 ^ q := Nat.pow_pos (by decide)
  have hs1 : s - 1 = 2 ^ q * (2 * m) + (2 ^ q - 1) := by rw [hm, Nat.mul_add]; omega
  rw [Nat.testBit_and, hs1, Nat.testBit_two_pow_mul_add _ (by omega)]
  have hst : s.testBit i = (decide (i ≥ q) && (2 * m + 1).testBit (i - q)) := by rw [hm, Nat.testBit_two_pow_mul]
  rw [hst]
  by_cases h1 : i < q
  · have a1 : ¬ i ≥ q := by omega
    have a2 : ¬ i = q := by omega
    simp [a1, a2]
  · by_cases h2 : i = q
    · subst h2
      simp
    · obtain ⟨k, rfl⟩ : ∃ k, i = q + 1 + k := ⟨i - q - 1, by omega⟩
      have a1 : q + 1 + k - q = k + 1 := by omega
      have a2 : ¬ (q + 1 + k < q) := by omega
      have a3 : ¬ (q + 1 + k = q) := by omega
      rw [a1, if_neg a2, Nat.testBit_succ, Nat.testBit_succ]
      have a4 : (2 * m + 1) / 2 = m := by omega
      have a5 : 2 * m / 2 = m := by omega
      rw [a4, a5]
      simp [a3]
theorem hasB_low (s : Nat) (h0 : s ≠ 0) (h : s < 18446744073709551616) (x : Int) : hasB (s : Int) x = (hasB ((2 ^ Lib.ctz 64 s : Nat) : Int) x || hasB ((s &&& (s - 1) : Nat) : Int) x) := by
  unfold hasB
  by_cases hx : 0 ≤ x
  · simp only [decide_eq_true hx, Bool.true_and, Int.toNat_natCast]
    rw [low_bit s h0 h, Nat.testBit_two_pow]
    congr 1
    simp only [decide_eq_decide]
    exact eq_comm
  · simp [hx]
theorem stepN_low (es : List Edg) (s : Nat) (x : Int) (h0 : s ≠ 0) (h : s < 18446744073709551616) : stepN es s x = stepN es (2 ^ Lib.ctz 64 s) x ||| stepN es (s &&& (s - 1)) x := by
  refine Nat.eq_of_testBit_eq (fun j => ?_)
  rw [Nat.testBit_or, stepN_bit, stepN_bit, stepN_bit, Bool.eq_iff_iff]
  simp only [Bool.or_eq_true, List.any_eq_true, decide_eq_true_eq]
  constructor
  · rintro ⟨e, he, ⟨h1, h2⟩, h3⟩
    rw [hasB_low s h0 h, Bool.or_eq_true] at h2
    rcases h2 with h2 | h2
    · exact .inl ⟨e, he, ⟨h1, h2⟩, h3⟩
    · exact .inr ⟨e, he, ⟨h1, h2⟩, h3⟩
  · rintro (⟨e, he, ⟨h1, h2⟩, h3⟩ | ⟨e, he, ⟨h1, h2⟩, h3⟩)
    · exact ⟨e, he, ⟨h1, by rw [hasB_low s h0 h, h2]; rfl⟩, h3⟩
    · exact ⟨e, he, ⟨h1, by rw [hasB_low s h0 h, h2, Bool.or_true]⟩, h3⟩
theorem low_lt (s : Nat) (h0 : s ≠ 0) (n : Nat) (h : s < 2 ^ n) (hn : n ≤ 64) : Lib.ctz 64 s < n := by
  have h64 : s < 18446744073709551616 := Nat.lt_of_lt_of_le h (Nat.pow_le_pow_right (by decide) hn)
  have hb := low_bit s h0 h64 (Lib.ctz 64 s)
  simp only [decide_true, Bool.true_or] at hb
  by_cases hc : Lib.ctz 64 s < n
  · exact hc
  · have := Nat.testBit_lt_two_pow (x := s) (i := Lib.ctz 64 s) (Nat.lt_of_lt_of_le h (Nat.pow_le_pow_right (by decide) (by omega)))
    rw [this] at hb
    cases hb
/-- The states to which a word leads. -/
def runN (es : List Edg) (l : List UInt8) : Nat := l.foldl (fun s c => stepN es s (ltr c)) 1
theorem runN_snoc (es : List Edg) (l : List UInt8) (c : UInt8) : runN es (l ++ [c]) = stepN es (runN es l) (ltr c) := by simp [runN, List.foldl_append]
theorem foldl_zero (es : List Edg) (l : List UInt8) : l.foldl (fun s c => stepN es s (ltr c)) 0 = 0 := by
  induction l with
  | nil => rfl
  | cons c r ih => rw [List.foldl_cons, stepN_zero]; exact ih
theorem runN_stop (es : List Edg) (l : List UInt8) (k : Nat) (h : runN es (l.take k) = 0) : runN es l = 0 := by
  conv => lhs; rw [← List.take_append_drop k l]
  unfold runN at h ⊢
  rw [List.foldl_append, h]
  exact foldl_zero es _
theorem runN_lt {es : List Edg} (h : OkE es) (l : List UInt8) : runN es l < 65536 := by
  rcases List.eq_nil_or_concat l with rfl | ⟨r, c, rfl⟩
  · show 1 < 65536
    decide
  · rw [List.concat_eq_append, runN_snoc]
    exact stepN_lt h _ _
/-- What StatesAfter computes. -/
def aftN (al st : Int) (es : List Edg) (l : List UInt8) : Nat := if sysV al st es = true ∧ within l al = true then runN es l else 0
theorem aftN_no (al st : Int) (es : List Edg) (l : List UInt8) (h : sysV al st es = false) : aftN al st es l = 0 := by simp [aftN, h]
theorem aftN_no2 (al st : Int) (es : List Edg) (l : List UInt8) (h : within l al = false) : aftN al st es l = 0 := by simp [aftN, h]
theorem aftN_yes (al st : Int) (es : List Edg) (l : List UInt8) (h : sysV al st es = true) (h2 : within l al = true) : aftN al st es l = runN es l := by simp [aftN, h, h2]
theorem aftN_lt (al st : Int) (es : List Edg) (l : List UInt8) : aftN al st es l < 65536 := by
  unfold aftN
  split
  · rename_i h
    exact runN_lt (sysV_ok h.1) l
  · omega
theorem aftN_ne {al st : Int} {es : List Edg} {l : List UInt8} (h : aftN al st es l ≠ 0) : sysV al st es = true ∧ within l al = true := by
  unfold aftN at h
  split at h
  · assumption
  · exact absurd rfl h
/-- The letters of the edges that leave a set. -/
def letN (es : List Edg) (s : Nat) : Nat := es.foldl (fun o e => if hasB (s : Int) e.1 = true then o ||| 2 ^ e.2.1.toNat else o) 0
theorem letN_yes (es : List Edg) (s : Nat) (e : Edg) (h2 : hasB (s : Int) e.1 = true) : letN (es ++ [e]) s = letN es s ||| 2 ^ e.2.1.toNat := by simp [letN, List.foldl_append, h2]
theorem letN_no (es : List Edg) (s : Nat) (e : Edg) (h : hasB (s : Int) e.1 = false) : letN (es ++ [e]) s = letN es s := by simp [letN, List.foldl_append, h]
theorem letN_bit (es : List Edg) (s : Nat) (j : Nat) : (letN es s).testBit j = es.any (fun e => decide (hasB (s : Int) e.1 = true ∧ e.2.1.toNat = j)) := by
  rw [letN, foldl_bit]; simp
theorem letN_zero (es : List Edg) : letN es 0 = 0 := by
  refine Nat.eq_of_testBit_eq (fun j => ?_)
  rw [letN_bit, Nat.zero_testBit, List.any_eq_false]
  intro e he
  have : hasB 0 e.1 = false := hasB_zero _
  simp [this]
theorem letN_lt {es : List Edg} (h : OkE es) (s : Nat) : letN es s < 64 := by
  refine lt_of_bits (k := 6) (fun j hj => ?_)
  rw [letN_bit, List.any_eq_false]
  intro e he
  have := h e he
  simp
  omega
/-- A set that no edge leaves. -/
def Clo (es : List Edg) (c : Nat) : Prop := ∀ e ∈ es, c.testBit e.1.toNat = true → c.testBit e.2.2.toNat = true
def IsReach (es : List Edg) (r : Nat) : Prop := r < 65536 ∧ r.testBit 0 = true ∧ Clo es r ∧ ∀ c : Nat, c.testBit 0 = true → Clo es c → ∀ j, r.testBit j = true → c.testBit j = true
theorem IsReach.unique {es : List Edg} {r q : Nat} (h : IsReach es r) (h2 : IsReach es q) : r = q := by
  refine Nat.eq_of_testBit_eq (fun j => ?_)
  have a := h.2.2.2 q h2.2.1 h2.2.2.1 j
  have b := h2.2.2.2 r h.2.1 h.2.2.1 j
  cases e1 : r.testBit j <;> cases e2 : q.testBit j <;> simp_all
end Go.Proofs.YtnjakhojdhkihaaGreatDoor
