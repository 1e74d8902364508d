/- The first run of a system with a word, in plain Lean. -/
import Derived.Test.YtknhgfmjchfnjaaDoorSysPlain2
namespace Go.Proofs.YtknhgfmjchfnjaaDoor
open Go.RowKit
set_option linter.unusedVariables false
set_option linter.unusedSimpArgs false

/-- The states from which a letter can lead into a set. -/
def backL (es : List Edg) (s : Nat) (x : Int) : Nat := es.foldl (fun o e => if e.2.1 = x ∧ hasB (s : Int) e.2.2 = true then o ||| 2 ^ e.1.toNat else o) 0
theorem backL_nil (s : Nat) (x : Int) : backL [] s x = 0 := rfl
theorem backL_yes (es : List Edg) (s : Nat) (x : Int) (e : Edg) (h : e.2.1 = x) (h2 : hasB (s : Int) e.2.2 = true) : backL (es ++ [e]) s x = backL es s x ||| 2 ^ e.1.toNat := by simp [backL, List.foldl_append, h, h2]
theorem backL_no (es : List Edg) (s : Nat) (x : Int) (e : Edg) (h : ¬ (e.2.1 = x ∧ hasB (s : Int) e.2.2 = true)) : backL (es ++ [e]) s x = backL es s x := by simp only [backL, List.foldl_append, List.foldl_cons, List.foldl_nil, if_neg h]
theorem backL_bit (es : List Edg) (s : Nat) (x : Int) (j : Nat) : (backL es s x).testBit j = es.any (fun e => decide ((e.2.1 = x ∧ hasB (s : Int) e.2.2 = true) ∧ e.1.toNat = j)) := by
  rw [backL, foldl_bit]; simp
theorem backL_under {es : List Edg} {T : Nat} (h : ∀ e ∈ es, e.1.toNat < T) (s : Nat) (x : Int) : backL es s x < 2 ^ T := by
  refine lt_of_bits (k := T) (fun j hj => ?_)
  rw [backL_bit, List.any_eq_false]
  intro e he
  have := h e he
  simp
  omega
theorem backL_lt {es : List Edg} (h : OkE es) (s : Nat) (x : Int) : backL es s x < 65536 := backL_under (T := 16) (fun e he => by have := (h e he).1; omega) s x
theorem hasB_of (s : Nat) (x : Int) (hx : 0 ≤ x) : hasB (s : Int) x = s.testBit x.toNat := by simp [hasB, hx]
/-- A state is among those that a letter can lead from just if its step meets the set. -/
theorem back_step {es : List Edg} (h : OkE es) (R : Nat) (x : Int) (q : Nat) : (backL es R x).testBit q = decide (stepN es (2 ^ q) x &&& R ≠ 0) := by
  rw [backL_bit, Bool.eq_iff_iff, List.any_eq_true, decide_eq_true_eq]
  constructor
  · rintro ⟨e, he, h1⟩ h0
    simp only [decide_eq_true_eq] at h1
    obtain ⟨⟨h1, h2⟩, h3⟩ := h1
    have ho := h e he
    have hb : (stepN es (2 ^ q) x &&& R).testBit e.2.2.toNat = true := by
      rw [Nat.testBit_and, stepN_bit, Bool.and_eq_true, List.any_eq_true]
      refine ⟨⟨e, he, ?_⟩, by rw [← hasB_of R _ (by omega)]; exact h2⟩
      simp only [decide_eq_true_eq]
      refine ⟨⟨h1, ?_⟩, by first | rfl | trivial⟩
      rw [hasB_of _ _ (by omega), h3, Nat.testBit_two_pow_self]
    rw [h0, Nat.zero_testBit] at hb
    cases hb
  · intro hn
    obtain ⟨j, hj⟩ := Nat.exists_testBit_of_ne_zero hn
    rw [Nat.testBit_and, stepN_bit, Bool.and_eq_true, List.any_eq_true] at hj
    obtain ⟨⟨e, he, h1⟩, h2⟩ := hj
    simp only [decide_eq_true_eq] at h1
    obtain ⟨⟨h1, h3⟩, h4⟩ := h1
    have ho := h e he
    refine ⟨e, he, ?_⟩
    simp only [decide_eq_true_eq]
    rw [hasB_of _ _ (by omega), Nat.testBit_two_pow] at h3
    refine ⟨⟨h1, by rw [hasB_of _ _ (by omega), h4]; exact h2⟩, ?_⟩
    simp only [decide_eq_true_eq] at h3
    exact h3.symm
/-- The states from which the rest of a word can be done. -/
def backN (es : List Edg) (T : Nat) : List UInt8 → Nat
  | [] => 2 ^ T - 1
  | c :: r => backL es (backN es T r) (ltr c)
theorem backN_lt {es : List Edg} {T : Nat} (h : ∀ e ∈ es, e.1.toNat < T) : ∀ l, backN es T l < 2 ^ T
  | [] => by have := Nat.pow_pos (n := T) (show 0 < 2 by decide); unfold backN; omega
  | c :: r => backL_under h _ _
theorem step_low {es : List Edg} {T : Nat} (h : ∀ e ∈ es, e.2.2.toNat < T) (s : Nat) (x : Int) : stepN es s x < 2 ^ T := by
  refine lt_of_bits (k := T) (fun j hj => ?_)
  rw [stepN_bit, List.any_eq_false]
  intro e he
  have := h e he
  simp
  omega
theorem step_meets {es : List Edg} (h : OkE es) (s R : Nat) (x : Int) : stepN es s x &&& R ≠ 0 ↔ s &&& backL es R x ≠ 0 := by
  constructor
  · intro hn
    obtain ⟨j, hj⟩ := Nat.exists_testBit_of_ne_zero hn
    rw [Nat.testBit_and, stepN_bit, Bool.and_eq_true, List.any_eq_true] at hj
    obtain ⟨⟨e, he, h1⟩, h2⟩ := hj
    simp only [decide_eq_true_eq] at h1
    obtain ⟨⟨h1, h3⟩, h4⟩ := h1
    have ho := h e he
    have hb : (s &&& backL es R x).testBit e.1.toNat = true := by
      rw [Nat.testBit_and, backL_bit, Bool.and_eq_true, List.any_eq_true]
      refine ⟨by rw [← hasB_of s _ (by omega)]; exact h3, e, he, ?_⟩
      simp only [decide_eq_true_eq]
      exact ⟨⟨h1, by rw [hasB_of _ _ (by omega), h4]; exact h2⟩, by first | rfl | trivial⟩
    intro h0
    rw [h0, Nat.zero_testBit] at hb
    cases hb
  · intro hn
    obtain ⟨j, hj⟩ := Nat.exists_testBit_of_ne_zero hn
    rw [Nat.testBit_and, backL_bit, Bool.and_eq_true, List.any_eq_true] at hj
    obtain ⟨h2, e, he, h1⟩ := hj
    simp only [decide_eq_true_eq] at h1
    obtain ⟨⟨h1, h3⟩, h4⟩ := h1
    have ho := h e he
    have hb : (stepN es s x &&& R).testBit e.2.2.toNat = true := by
      rw [Nat.testBit_and, stepN_bit, Bool.and_eq_true, List.any_eq_true]
      refine ⟨⟨e, he, ?_⟩, by rw [← hasB_of R _ (by omega)]; exact h3⟩
      simp only [decide_eq_true_eq]
      exact ⟨⟨h1, by rw [hasB_of _ _ (by omega), h4]; exact h2⟩, by first | rfl | trivial⟩
    intro h0
    rw [h0, Nat.zero_testBit] at hb
    cases hb
theorem and_full (s T : Nat) (h : s < 2 ^ T) : s &&& (2 ^ T - 1) = s := by
  rw [Nat.and_two_pow_sub_one_eq_mod]
  exact Nat.mod_eq_of_lt h
theorem run_back {es : List Edg} {T : Nat} (h : OkE es) (ht : ∀ e ∈ es, e.2.2.toNat < T) (l : List UInt8) : ∀ s : Nat, s < 2 ^ T → (l.foldl (fun s c => stepN es s (ltr c)) s ≠ 0 ↔ s &&& backN es T l ≠ 0) := by
  induction l with
  | nil =>
    intro s hs
    show s ≠ 0 ↔ s &&& (2 ^ T - 1) ≠ 0
    rw [and_full s T hs]
  | cons c r ih =>
    intro s hs
    rw [List.foldl_cons, ih _ (step_low ht s _)]
    exact step_meets h s _ _
/-- The k-th state of the first run. -/
def runS (es : List Edg) (T : Nat) (l : List UInt8) : Nat → Nat
  | 0 => 0
  | k + 1 => Lib.ctz 64 (stepN es (2 ^ runS es T l k) (ltr (l[k]?.getD 0)) &&& backN es T (l.drop (k + 1)))
theorem ctz_bit (s : Nat) (h0 : s ≠ 0) (h : s < 18446744073709551616) : s.testBit (Lib.ctz 64 s) = true := by
  rw [low_bit s h0 h]; simp
theorem ctz_least (s : Nat) (h : s < 18446744073709551616) (j : Nat) (hj : s.testBit j = true) : Lib.ctz 64 s ≤ j := by
  have h0 : s ≠ 0 := by rintro rfl; rw [Nat.zero_testBit] at hj; cases hj
  obtain ⟨m, hm, hq⟩ := Lib.ctzFrom_spec 64 s (by omega) h
  have e0 : Lib.ctz 64 s = Lib.ctzFrom 64 s := by
    first
      | rfl
      | simp [Lib.ctz, h0]
  rw [e0]
  refine Classical.byContradiction fun hn => ?_
  generalize Lib.ctzFrom 64 s = q at hm hq hn
  rw [hm, Nat.testBit_two_pow_mul] at hj
  simp only [Bool.and_eq_true, decide_eq_true_eq] at hj
  omega
theorem drop_cons_get (l : List UInt8) (k : Nat) (h : k < l.length) : l.drop k = (l[k]?.getD 0) :: l.drop (k + 1) := by
  rw [List.getElem?_eq_getElem h]
  exact List.drop_eq_getElem_cons h
/-- Each state of the first run is one from which the rest can be done. -/
theorem runS_in {es : List Edg} {T : Nat} (h : OkE es) (hT : T ≤ 16) (hf : ∀ e ∈ es, e.1.toNat < T) (ht : ∀ e ∈ es, e.2.2.toNat < T) (l : List UInt8) (h0 : runN es l ≠ 0) (h1 : 1 ≤ T) : ∀ k, k ≤ l.length → (backN es T (l.drop k)).testBit (runS es T l k) = true := by
  intro k
  induction k with
  | zero =>
    intro _
    have := (run_back h ht l 1 (by calc 1 < 2 ^ 1 := by decide
                                        _ ≤ 2 ^ T := Nat.pow_le_pow_right (by decide) h1)).1 h0
    obtain ⟨j, hj⟩ := Nat.exists_testBit_of_ne_zero this
    rw [Nat.testBit_and, Bool.and_eq_true] at hj
    have hj0 : j = 0 := by
      have := hj.1
      cases j with
      | zero => rfl
      | succ j => rw [Nat.testBit_succ] at this; simp at this
    subst hj0
    exact hj.2
  | succ k ih =>
    intro hk
    have hp := ih (by omega)
    rw [drop_cons_get l k (by omega)] at hp
    have hp' : (backL es (backN es T (l.drop (k + 1))) (ltr (l[k]?.getD 0))).testBit (runS es T l k) = true := hp
    rw [back_step h, decide_eq_true_eq] at hp'
    have hlt := stepN_lt h (2 ^ runS es T l k) (ltr (l[k]?.getD 0))
    have hal := Nat.and_le_left (n := stepN es (2 ^ runS es T l k) (ltr (l[k]?.getD 0))) (m := backN es T (l.drop (k + 1)))
    have hb := ctz_bit _ hp' (by omega)
    rw [Nat.testBit_and, Bool.and_eq_true] at hb
    exact hb.2
theorem runS_step {es : List Edg} {T : Nat} (h : OkE es) (hT : T ≤ 16) (hf : ∀ e ∈ es, e.1.toNat < T) (ht : ∀ e ∈ es, e.2.2.toNat < T) (l : List UInt8) (h0 : runN es l ≠ 0) (h1 : 1 ≤ T) (k : Nat) (hk : k < l.length) : stepN es (2 ^ runS es T l k) (ltr (l[k]?.getD 0)) &&& backN es T (l.drop (k + 1)) ≠ 0 := by
  have hp := runS_in h hT hf ht l h0 h1 k (by omega)
  rw [drop_cons_get l k hk] at hp
  have hp' : (backL es (backN es T (l.drop (k + 1))) (ltr (l[k]?.getD 0))).testBit (runS es T l k) = true := hp
  rwa [back_step h, decide_eq_true_eq] at hp'
theorem bit_lt_of {n T j : Nat} (h : n < 2 ^ T) (hj : n.testBit j = true) : j < T := by
  refine Classical.byContradiction fun hn => ?_
  rw [Nat.testBit_lt_two_pow (Nat.lt_of_lt_of_le h (Nat.pow_le_pow_right (by decide) (by omega)))] at hj
  cases hj
theorem runS_lt {es : List Edg} {T : Nat} (h : OkE es) (hT : T ≤ 16) (hf : ∀ e ∈ es, e.1.toNat < T) (ht : ∀ e ∈ es, e.2.2.toNat < T) (l : List UInt8) (h0 : runN es l ≠ 0) (h1 : 1 ≤ T) (k : Nat) (hk : k ≤ l.length) : runS es T l k < T :=
  bit_lt_of (backN_lt hf _) (runS_in h hT hf ht l h0 h1 k hk)
/-- The first run, as a list. -/
def runL (es : List Edg) (T : Nat) (l : List UInt8) : List Int := (List.range (l.length + 1)).map (fun k => ((runS es T l k : Nat) : Int))
theorem runL_len (es : List Edg) (T : Nat) (l : List UInt8) : (runL es T l).length = l.length + 1 := by simp [runL]
theorem runL_at (es : List Edg) (T : Nat) (l : List UInt8) (k : Nat) (h : k ≤ l.length) : (runL es T l)[k]?.getD 0 = ((runS es T l k : Nat) : Int) := by
  simp [runL, show k < l.length + 1 by omega]
/-- What RunOf answers. -/
def runP (al st : Int) (es : List Edg) (l : List UInt8) (xs : List Int) (b : Bool) : Prop := if aftN al st es l ≠ 0 then xs = runL es st.toNat l ∧ b = true else xs = [] ∧ b = false
theorem runP_unique {al st : Int} {es : List Edg} {l : List UInt8} {xs ys : List Int} {b c : Bool} (h : runP al st es l xs b) (h2 : runP al st es l ys c) : xs = ys ∧ b = c := by
  unfold runP at h h2
  split at h <;> simp_all
/-- Everything that a trace gives. -/
theorem aft_facts {al st : Int} {es : List Edg} {l : List UInt8} (h : aftN al st es l ≠ 0) : ∃ T : Nat, st = (T : Int) ∧ 1 ≤ T ∧ T ≤ 16 ∧ OkE es ∧ (∀ e ∈ es, e.1.toNat < T) ∧ (∀ e ∈ es, e.2.2.toNat < T) ∧ runN es l ≠ 0 ∧ sysV al st es = true ∧ within l al = true ∧ l.length ≤ 50000 := by
  obtain ⟨h1, h2⟩ := aftN_ne h
  obtain ⟨-, hs1, hs2, hfe⟩ := sysV_facts h1
  obtain ⟨T, rfl⟩ := Int.eq_ofNat_of_zero_le (show 0 ≤ st by omega)
  have h3 := h
  rw [aftN_yes _ _ _ _ h1 h2] at h3
  refine ⟨T, rfl, by omega, by omega, sysV_ok h1, fun e he => ?_, fun e he => ?_, h3, h1, h2, ?_⟩
  · have := (edgeOK_facts (hfe e he)).1; omega
  · have := (edgeOK_facts (hfe e he)).2.1; omega
  · unfold within at h2
    simp only [Bool.and_eq_true, decide_eq_true_eq] at h2
    exact h2.1.2
/-- A shorter word leaves more states open. -/
theorem backN_take {es : List Edg} {T : Nat} (hf : ∀ e ∈ es, e.1.toNat < T) : ∀ (l : List UInt8) (n j : Nat), (backN es T l).testBit j = true → (backN es T (l.take n)).testBit j = true
  | [], n, j, h => by rw [List.take_nil]; exact h
  | c :: r, 0, j, h => by
    have := bit_lt_of (backN_lt hf (c :: r)) h
    show (2 ^ T - 1).testBit j = true
    rw [Nat.testBit_two_pow_sub_one]; simpa using this
  | c :: r, n + 1, j, h => by
    show (backL es (backN es T (r.take n)) (ltr c)).testBit j = true
    have h' : (backL es (backN es T r) (ltr c)).testBit j = true := h
    rw [backL_bit, List.any_eq_true] at h' ⊢
    obtain ⟨e, he, h1⟩ := h'
    refine ⟨e, he, ?_⟩
    simp only [decide_eq_true_eq] at h1 ⊢
    refine ⟨⟨h1.1.1, ?_⟩, h1.2⟩
    have h2 := h1.1.2
    unfold hasB at h2 ⊢
    simp only [Bool.and_eq_true, decide_eq_true_eq, Int.toNat_natCast] at h2 ⊢
    exact ⟨h2.1, backN_take hf r n _ h2.2⟩
/-- Runs begin as runs: at the first place where they differ, the shorter word's run is less. -/
theorem runS_first {es : List Edg} {T : Nat} (h : OkE es) (hT : T ≤ 16) (hf : ∀ e ∈ es, e.1.toNat < T) (ht : ∀ e ∈ es, e.2.2.toNat < T) (l : List UInt8) (h0 : runN es l ≠ 0) (h1 : 1 ≤ T) (n : Nat) (hn : n ≤ l.length) (k : Nat) (hk : k ≤ n) (hs : ∀ j, j < k → runS es T (l.take n) j = runS es T l j) : runS es T (l.take n) k ≤ runS es T l k := by
  cases k with
  | zero => exact Nat.le_refl _
  | succ k =>
    show Lib.ctz 64 _ ≤ _
    have hst := runS_step h hT hf ht l h0 h1 k (by omega)
    have hlt := stepN_lt h (2 ^ runS es T l k) (ltr (l[k]?.getD 0))
    have hal := Nat.and_le_left (n := stepN es (2 ^ runS es T l k) (ltr (l[k]?.getD 0))) (m := backN es T (l.drop (k + 1)))
    have hb := ctz_bit _ hst (by omega)
    have e1 : (l.take n)[k]?.getD 0 = l[k]?.getD 0 := by rw [List.getElem?_take_of_lt (by omega)]
    rw [hs k (by omega), e1]
    refine ctz_least _ ?_ _ ?_
    · have := Nat.and_le_left (n := stepN es (2 ^ runS es T l k) (ltr (l[k]?.getD 0))) (m := backN es T ((l.take n).drop (k + 1)))
      omega
    · have e2 : runS es T l (k + 1) = Lib.ctz 64 (stepN es (2 ^ runS es T l k) (ltr (l[k]?.getD 0)) &&& backN es T (l.drop (k + 1))) := rfl
      rw [e2]
      rw [Nat.testBit_and, Bool.and_eq_true] at hb ⊢
      refine ⟨hb.1, ?_⟩
      rw [List.drop_take]
      exact backN_take hf _ _ _ hb.2
/-- Each state of the run is among those to which the word so far leads. -/
theorem runS_after {es : List Edg} {T : Nat} (h : OkE es) (hT : T ≤ 16) (hf : ∀ e ∈ es, e.1.toNat < T) (ht : ∀ e ∈ es, e.2.2.toNat < T) (l : List UInt8) (h0 : runN es l ≠ 0) (h1 : 1 ≤ T) (k : Nat) (hk : k < l.length) : (stepN es (2 ^ runS es T l k) (ltr (l[k]?.getD 0))).testBit (runS es T l (k + 1)) = true := by
  have hst := runS_step h hT hf ht l h0 h1 k hk
  have hlt := stepN_lt h (2 ^ runS es T l k) (ltr (l[k]?.getD 0))
  have hal := Nat.and_le_left (n := stepN es (2 ^ runS es T l k) (ltr (l[k]?.getD 0))) (m := backN es T (l.drop (k + 1)))
  have hb := ctz_bit _ hst (by omega)
  rw [Nat.testBit_and, Bool.and_eq_true] at hb
  exact hb.1
theorem step_sub {es : List Edg} (s q : Nat) (x : Int) (h : s.testBit q = true) (j : Nat) (hj : (stepN es (2 ^ q) x).testBit j = true) : (stepN es s x).testBit j = true := by
  rw [stepN_bit, List.any_eq_true] at hj ⊢
  obtain ⟨e, he, h1⟩ := hj
  refine ⟨e, he, ?_⟩
  simp only [decide_eq_true_eq] at h1 ⊢
  refine ⟨⟨h1.1.1, ?_⟩, h1.2⟩
  have h2 := h1.1.2
  unfold hasB at h2 ⊢
  simp only [Bool.and_eq_true, decide_eq_true_eq, Int.toNat_natCast, Nat.testBit_two_pow] at h2 ⊢
  exact ⟨h2.1, by rw [← h2.2]; exact h⟩
theorem runS_all {es : List Edg} {T : Nat} (h : OkE es) (hT : T ≤ 16) (hf : ∀ e ∈ es, e.1.toNat < T) (ht : ∀ e ∈ es, e.2.2.toNat < T) (l : List UInt8) (h0 : runN es l ≠ 0) (h1 : 1 ≤ T) : ∀ k, k ≤ l.length → (runN es (l.take k)).testBit (runS es T l k) = true := by
  intro k
  induction k with
  | zero => intro _; rw [List.take_zero]; show (1 : Nat).testBit 0 = true; rfl
  | succ k ih =>
    intro hk
    have e : l.take (k + 1) = l.take k ++ [l[k]?.getD 0] := by
      rw [List.take_add_one, List.getElem?_eq_getElem (by omega : k < l.length)]; rfl
    rw [e, runN_snoc]
    exact step_sub _ _ _ (ih (by omega)) _ (runS_after h hT hf ht l h0 h1 k (by omega))
end Go.Proofs.YtknhgfmjchfnjaaDoor
