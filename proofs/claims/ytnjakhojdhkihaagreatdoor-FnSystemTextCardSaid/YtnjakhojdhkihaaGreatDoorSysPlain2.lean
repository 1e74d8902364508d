/- The plain laws of systems: prefixes, wide alphabets, fewer edges, closed sets, reachable states by rounds. -/
import Derived.Test.YtnjakhojdhkihaaGreatDoorSysPlain
namespace Go.Proofs.YtnjakhojdhkihaaGreatDoor
open Go.RowKit
set_option linter.unusedVariables false
set_option linter.unusedSimpArgs false

theorem within_take {l : List UInt8} {al : Int} (k : Nat) (h : within l al = true) : within (l.take k) al = true := by
  unfold within at h ⊢
  simp only [Bool.and_eq_true, decide_eq_true_eq, List.all_eq_true] at h ⊢
  obtain ⟨⟨h1, h2⟩, h3⟩ := h
  exact ⟨⟨h1, by rw [List.length_take]; omega⟩, fun c hc => h3 c (List.mem_of_mem_take hc)⟩
/-- Traces have prefixes. -/
theorem aft_prefix (al st : Int) (es : List Edg) (l : List UInt8) (k : Nat) (h : aftN al st es l ≠ 0) : aftN al st es (l.take k) ≠ 0 := by
  obtain ⟨h1, h2⟩ := aftN_ne h
  rw [aftN_yes _ _ _ _ h1 h2] at h
  rw [aftN_yes _ _ _ _ h1 (within_take k h2)]
  exact fun h3 => h (runN_stop es l k h3)
theorem within_snoc (l : List UInt8) (c : UInt8) (al : Int) (hl : l.length < 50000) : within (l ++ [c]) al = (within l al && okL al c) := by
  unfold within
  simp only [List.length_append, List.length_singleton, List.all_append, List.all_cons, List.all_nil, Bool.and_true]
  have h1 : decide (l.length + 1 ≤ 50000) = true := by simp; omega
  have h2 : decide (l.length ≤ 50000) = true := by simp; omega
  rw [h1, h2]
  cases isA al <;> simp
theorem stepN_no_letter (es : List Edg) (s : Nat) (x : Int) (h : ∀ e ∈ es, e.2.1 ≠ x) : stepN es s x = 0 := by
  refine Nat.eq_of_testBit_eq (fun j => ?_)
  rw [stepN_bit, Nat.zero_testBit, List.any_eq_false]
  intro e he
  have := h e he
  simp [this]
theorem step_out {al st : Int} {es : List Edg} (h : sysV al st es = true) (s : Nat) (x : Int) (hx : hasB al x = false) : stepN es s x = 0 := by
  refine stepN_no_letter es s x (fun e he h2 => ?_)
  have := (edgeOK_facts ((sysV_facts h).2.2.2 e he)).2.2.2
  rw [h2, hx] at this
  cases this
/-- Words lead along edges. -/
theorem aft_snoc (al st : Int) (es : List Edg) (l : List UInt8) (c : UInt8) (h : sysV al st es = true) (hl : l.length < 50000) : aftN al st es (l ++ [c]) = stepN es (aftN al st es l) (ltr c) := by
  cases hw : within l al with
  | false =>
    rw [aftN_no2 _ _ _ _ (by rw [within_snoc l c al hl, hw]; rfl), aftN_no2 _ _ _ _ hw, stepN_zero]
  | true =>
    cases hc : okL al c with
    | false =>
      rw [aftN_no2 _ _ _ _ (by rw [within_snoc l c al hl, hc, Bool.and_false])]
      exact (step_out h _ _ hc).symm
    | true =>
      rw [aftN_yes _ _ _ _ h (by rw [within_snoc l c al hl, hw, hc]; rfl), aftN_yes _ _ _ _ h hw, runN_snoc]
theorem aft_nil (al st : Int) (es : List Edg) (h : sysV al st es = true) : aftN al st es [] = 1 := by
  have : within [] al = true := by simp [within, (sysV_facts h).1]
  rw [aftN_yes _ _ _ _ h this]; rfl
/-- Letters go on. -/
theorem letN_step (es : List Edg) (hok : OkE es) (s : Nat) (x : Nat) : (letN es s).testBit x = decide (stepN es s (x : Int) ≠ 0) := by
  rw [letN_bit, Bool.eq_iff_iff, List.any_eq_true, decide_eq_true_eq]
  constructor
  · rintro ⟨e, he, h⟩ h0
    simp only [decide_eq_true_eq] at h
    have hb := stepN_bit es s (x : Int) e.2.2.toNat
    rw [h0, Nat.zero_testBit] at hb
    have := List.any_eq_false.1 hb.symm e he
    have hx : e.2.1 = (x : Int) := by have := (hok e he).2.1.1; omega
    simp [hx, h.1] at this
  · intro h
    by_cases hh : ∃ e ∈ es, decide (hasB (s : Int) e.1 = true ∧ e.2.1.toNat = x) = true
    · exact hh
    · exfalso
      refine h (Nat.eq_of_testBit_eq (fun j => ?_))
      rw [stepN_bit, Nat.zero_testBit, List.any_eq_false]
      intro e he h2
      simp only [decide_eq_true_eq] at h2
      exact hh ⟨e, he, by simp only [decide_eq_true_eq]; exact ⟨h2.1.2, by rw [h2.1.1]; rfl⟩⟩
/-- Unused letters do not matter. -/
theorem sysV_wide {al st : Int} {es : List Edg} (h : sysV al st es = true) : sysV 63 st es = true := by
  have hok := sysV_ok h
  unfold sysV at h ⊢
  simp only [Bool.and_eq_true, decide_eq_true_eq, List.all_eq_true, stepOK] at h ⊢
  obtain ⟨h1, ⟨h2, h3⟩, h4⟩ := h
  refine ⟨by decide, ⟨h2, h3⟩, fun k hk => ⟨?_, (h4 k hk).2⟩⟩
  have hk' : k < es.length := List.mem_range.1 hk
  have hf := edgeOK_facts (h4 k hk).1
  have ho := hok.at k hk'
  simp only [edgeOK, Bool.and_eq_true, decide_eq_true_eq]
  exact ⟨hf.1, hf.2.1, hf.2.2.1, by rw [hasB_63 _ hf.2.2.1]; simp; exact ho.2.1.1⟩
theorem runN_out {al st : Int} {es : List Edg} (h : sysV al st es = true) (l : List UInt8) (hl : l.all (okL al) = false) : runN es l = 0 := by
  have key : ∀ (l : List UInt8) (s : Nat), l.all (okL al) = false → l.foldl (fun s c => stepN es s (ltr c)) s = 0 := by
    intro l
    induction l with
    | nil => intro s h; cases h
    | cons c r ih =>
      intro s hh
      rw [List.foldl_cons]
      rw [List.all_cons] at hh
      cases hc : okL al c with
      | false => rw [step_out h s _ hc]; exact foldl_zero es r
      | true => rw [hc, Bool.true_and] at hh; exact ih _ hh
  exact key l 1 hl
theorem within_wide {l : List UInt8} {al : Int} (h : within l al = true) : within l 63 = true := by
  unfold within at h ⊢
  simp only [Bool.and_eq_true, decide_eq_true_eq, List.all_eq_true] at h ⊢
  obtain ⟨⟨h1, h2⟩, h3⟩ := h
  exact ⟨⟨by decide, h2⟩, fun c hc => okL_63_of (h3 c hc)⟩
theorem aft_wide (al st : Int) (es : List Edg) (l : List UInt8) (h : sysV al st es = true) : aftN 63 st es l = aftN al st es l := by
  have hv := sysV_wide h
  cases hw : within l al with
  | true => rw [aftN_yes _ _ _ _ hv (within_wide hw), aftN_yes _ _ _ _ h hw]
  | false =>
    rw [aftN_no2 _ _ _ _ hw]
    cases hw2 : within l 63 with
    | false => rw [aftN_no2 _ _ _ _ hw2]
    | true =>
      rw [aftN_yes _ _ _ _ hv hw2]
      refine runN_out h l ?_
      have ha := (sysV_facts h).1
      unfold within at hw hw2
      simp only [Bool.and_eq_true] at hw2
      rw [ha, hw2.1.2, Bool.true_and, Bool.true_and] at hw
      exact hw
/-- Fewer edges have fewer traces. -/
theorem stepN_mono (es fs : List Edg) (s t : Nat) (x : Int) (hs : ∀ j, s.testBit j = true → t.testBit j = true) (he : ∀ e ∈ es, e ∈ fs) (j : Nat) (h : (stepN es s x).testBit j = true) : (stepN fs t x).testBit j = true := by
  rw [stepN_bit, List.any_eq_true] at h ⊢
  obtain ⟨e, h1, h2⟩ := h
  simp only [decide_eq_true_eq] at h2 ⊢
  refine ⟨e, he e h1, ⟨h2.1.1, ?_⟩, h2.2⟩
  have := h2.1.2
  unfold hasB at this ⊢
  simp only [Bool.and_eq_true, decide_eq_true_eq, Int.toNat_natCast] at this ⊢
  exact ⟨this.1, hs _ this.2⟩
theorem runN_mono (es fs : List Edg) (he : ∀ e ∈ es, e ∈ fs) (l : List UInt8) (j : Nat) (h : (runN es l).testBit j = true) : (runN fs l).testBit j = true := by
  have key : ∀ (l : List UInt8) (s t : Nat), (∀ j, s.testBit j = true → t.testBit j = true) → ∀ j, (l.foldl (fun s c => stepN es s (ltr c)) s).testBit j = true → (l.foldl (fun s c => stepN fs s (ltr c)) t).testBit j = true := by
    intro l
    induction l with
    | nil => intro s t h j; exact h j
    | cons c r ih =>
      intro s t h j
      rw [List.foldl_cons, List.foldl_cons]
      exact ih _ _ (fun j hj => stepN_mono es fs s t _ h he j hj) j
  exact key l 1 1 (fun _ h => h) j h
theorem ne_of_bits {a b : Nat} (h : ∀ j, a.testBit j = true → b.testBit j = true) (ha : a ≠ 0) : b ≠ 0 := by
  intro hb
  refine ha (Nat.eq_of_testBit_eq (fun j => ?_))
  rw [Nat.zero_testBit]
  cases e : a.testBit j
  · rfl
  · have := h j e
    rw [hb, Nat.zero_testBit] at this
    cases this
theorem sysV_drop {al st : Int} {es : List Edg} (h : sysV al st es = true) (k : Nat) : sysV al st (es.take k) = true := by
  unfold sysV at h ⊢
  simp only [Bool.and_eq_true, decide_eq_true_eq, List.all_eq_true] at h ⊢
  obtain ⟨h1, h2, h4⟩ := h
  refine ⟨h1, h2, fun i hi => ?_⟩
  have hi' : i < (es.take k).length := List.mem_range.1 hi
  rw [List.length_take] at hi'
  have := h4 i (List.mem_range.2 (by omega))
  unfold stepOK Edg.at at this ⊢
  rw [List.getElem?_take, List.getElem?_take, if_pos (by omega), if_pos (by omega)]
  exact this
theorem aft_drop (al st : Int) (es : List Edg) (l : List UInt8) (k : Nat) (h : sysV al st es = true) (h2 : aftN al st (es.take k) l ≠ 0) : aftN al st es l ≠ 0 := by
  obtain ⟨h3, h4⟩ := aftN_ne h2
  rw [aftN_yes _ _ _ _ h3 h4] at h2
  rw [aftN_yes _ _ _ _ h h4]
  exact ne_of_bits (fun j => runN_mono _ _ (fun e he => List.mem_of_mem_take he) l j) h2
/-- Closed sets. -/
theorem clo_step {es : List Edg} {c : Nat} (h : Clo es c) (s : Nat) (x : Int) (hs : ∀ j, s.testBit j = true → c.testBit j = true) (j : Nat) (hj : (stepN es s x).testBit j = true) : c.testBit j = true := by
  rw [stepN_bit, List.any_eq_true] at hj
  obtain ⟨e, he, h2⟩ := hj
  simp only [decide_eq_true_eq] at h2
  rw [← h2.2]
  refine h e he (hs _ ?_)
  have := h2.1.2
  unfold hasB at this
  simp only [Bool.and_eq_true, Int.toNat_natCast] at this
  exact this.2
theorem or_sub {a b c : Nat} (h : ∀ j, a.testBit j = true → c.testBit j = true) (h2 : ∀ j, b.testBit j = true → c.testBit j = true) (j : Nat) (hj : (a ||| b).testBit j = true) : c.testBit j = true := by
  rw [Nat.testBit_or, Bool.or_eq_true] at hj
  rcases hj with hj | hj
  · exact h j hj
  · exact h2 j hj
theorem or_eq {a b : Nat} (h : ∀ j, a.testBit j = true → b.testBit j = true) : a ||| b = b := by
  refine Nat.eq_of_testBit_eq (fun j => ?_)
  rw [Nat.testBit_or]
  cases e : a.testBit j
  · rfl
  · rw [h j e]; rfl
theorem bit0_one (c : Nat) (h : c.testBit 0 = true) (j : Nat) (hj : (1 : Nat).testBit j = true) : c.testBit j = true := by
  have : j = 0 := by
    have h1 : (1 : Nat) = 2 ^ 0 := rfl
    rw [h1, Nat.testBit_two_pow] at hj
    have h2 : 0 = j := by simpa using hj
    exact h2.symm
  rw [this]; exact h
theorem run_reach {es : List Edg} {r : Nat} (h : IsReach es r) (l : List UInt8) (j : Nat) (hj : (runN es l).testBit j = true) : r.testBit j = true := by
  have key : ∀ (l : List UInt8) (s : Nat), (∀ j, s.testBit j = true → r.testBit j = true) → ∀ j, (l.foldl (fun s c => stepN es s (ltr c)) s).testBit j = true → r.testBit j = true := by
    intro l
    induction l with
    | nil => intro s h j; exact h j
    | cons c q ih =>
      intro s hs j
      rw [List.foldl_cons]
      exact ih _ (fun j hj => clo_step h.2.2.1 s _ hs j hj) j
  exact key l 1 (bit0_one r h.2.1) j hj
theorem clo_of_steps {es : List Edg} (hok : OkE es) {c : Nat} (h : ∀ x : Nat, x < 6 → ∀ j, (stepN es c (x : Int)).testBit j = true → c.testBit j = true) : Clo es c := by
  intro e he hb
  have ho := hok e he
  refine h e.2.1.toNat (by omega) _ ?_
  rw [stepN_bit, List.any_eq_true]
  refine ⟨e, he, ?_⟩
  simp only [decide_eq_true_eq]
  refine ⟨⟨by omega, ?_⟩, trivial⟩
  unfold hasB
  simp only [Bool.and_eq_true, decide_eq_true_eq, Int.toNat_natCast]
  exact ⟨ho.1.1, hb⟩
/-- The states that can be reached lie under every bound of the edges. -/
theorem reach_lt {es : List Edg} {r : Nat} (h : IsReach es r) (n : Nat) (hn : 1 ≤ n) (hb : ∀ e ∈ es, e.2.2.toNat < n) : r < 2 ^ n := by
  refine lt_of_bits (k := n) (fun j hj => ?_)
  cases e : r.testBit j
  · rfl
  · have := h.2.2.2 (2 ^ n - 1) (by simp; omega) (fun e he _ => by rw [Nat.testBit_two_pow_sub_one]; simpa using hb e he) j e
    rw [Nat.testBit_two_pow_sub_one] at this
    simp at this
    omega
/-- Rounds: how many numbers under n a set has. -/
def cnt (n s : Nat) : Nat := (List.range n).countP (fun j => s.testBit j)
theorem countP_le' {p q : Nat → Bool} : ∀ l : List Nat, (∀ x ∈ l, p x = true → q x = true) → l.countP p ≤ l.countP q
  | [], _ => by simp
  | a :: l, h => by
    have := countP_le' l (fun x hx => h x (List.mem_cons_of_mem _ hx))
    rw [List.countP_cons, List.countP_cons]
    have ha := h a (List.mem_cons_self ..)
    cases e1 : p a <;> cases e2 : q a <;> simp_all <;> omega
theorem countP_lt' {p q : Nat → Bool} (y : Nat) : ∀ l : List Nat, (∀ x ∈ l, p x = true → q x = true) → y ∈ l → p y = false → q y = true → l.countP p < l.countP q
  | [], _, hy, _, _ => by cases hy
  | a :: l, h, hy, h1, h2 => by
    rw [List.countP_cons, List.countP_cons]
    have hle := countP_le' l (fun x hx => h x (List.mem_cons_of_mem _ hx))
    have ha := h a (List.mem_cons_self ..)
    rcases List.mem_cons.1 hy with rfl | hy
    · simp [h1, h2]; omega
    · have := countP_lt' y l (fun x hx => h x (List.mem_cons_of_mem _ hx)) hy h1 h2
      cases e1 : p a <;> cases e2 : q a <;> simp_all <;> omega
theorem cnt_le (n s : Nat) : cnt n s ≤ n := by
  have := List.countP_le_length (p := fun j => s.testBit j) (l := List.range n)
  simpa [cnt] using this
theorem cnt_full (n s : Nat) (h : cnt n s = n) (j : Nat) (hj : j < n) : s.testBit j = true := by
  have := List.countP_eq_length (p := fun j => s.testBit j) (l := List.range n)
  simp only [List.length_range, List.mem_range] at this
  exact this.1 h j hj
/-- One round over the six letters. -/
def swp (es : List Edg) : Nat → Nat → Nat
  | 0, g => g
  | c + 1, g => swp es c g ||| stepN es (swp es c g) (c : Int)
theorem swp_ge (es : List Edg) (c g j : Nat) (h : g.testBit j = true) : (swp es c g).testBit j = true := by
  induction c with
  | zero => exact h
  | succ c ih => rw [swp, Nat.testBit_or, ih]; rfl
theorem swp_ge' (es : List Edg) (c d g j : Nat) (hcd : c ≤ d) (h : (swp es c g).testBit j = true) : (swp es d g).testBit j = true := by
  induction d with
  | zero => obtain rfl : c = 0 := by omega
            exact h
  | succ d ih =>
    by_cases e : c = d + 1
    · subst e; exact h
    · rw [swp, Nat.testBit_or, ih (by omega)]; rfl
theorem swp_reach {es : List Edg} {r : Nat} (h : IsReach es r) (c g : Nat) (hg : ∀ j, g.testBit j = true → r.testBit j = true) (j : Nat) (hj : (swp es c g).testBit j = true) : r.testBit j = true := by
  induction c generalizing j with
  | zero => exact hg j hj
  | succ c ih => exact or_sub ih (fun j hj => clo_step h.2.2.1 _ _ ih j hj) j hj
/-- The sets of the rounds. -/
def rnd (es : List Edg) : Nat → Nat
  | 0 => 1
  | i + 1 => swp es 6 (rnd es i)
theorem rnd_reach {es : List Edg} {r : Nat} (h : IsReach es r) (i j : Nat) (hj : (rnd es i).testBit j = true) : r.testBit j = true := by
  induction i generalizing j with
  | zero => exact bit0_one r h.2.1 j hj
  | succ i ih => exact swp_reach h 6 _ ih j hj
theorem rnd_zero (es : List Edg) (i : Nat) : (rnd es i).testBit 0 = true := by
  induction i with
  | zero =>
    show (1 : Nat).testBit 0 = true
    decide
  | succ i ih => exact swp_ge es 6 _ 0 ih
theorem swp_same {es : List Edg} (hok : OkE es) (g : Nat) (h : ∀ j, (swp es 6 g).testBit j = true → g.testBit j = true) : Clo es g := by
  have heq : ∀ c, c ≤ 6 → swp es c g = g := fun c hc => Nat.eq_of_testBit_eq (fun j => by
    cases e : (swp es c g).testBit j
    · cases e2 : g.testBit j
      · rfl
      · rw [swp_ge es c g j e2] at e; cases e
    · exact (h j (swp_ge' es c 6 g j hc e)).symm)
  refine clo_of_steps hok (fun x hx j hj => ?_)
  refine h j (swp_ge' es (x + 1) 6 g j (by omega) ?_)
  rw [swp, heq x (by omega), Nat.testBit_or, hj, Bool.or_true]
theorem rnd_grow {es : List Edg} (hok : OkE es) (n : Nat) (hn : 1 ≤ n) (hb : ∀ e ∈ es, e.2.2.toNat < n) {r : Nat} (hr : IsReach es r) (i : Nat) : Clo es (rnd es i) ∨ i + 1 ≤ cnt n (rnd es i) := by
  induction i with
  | zero =>
    right
    show 1 ≤ cnt n 1
    unfold cnt
    rw [Nat.one_le_iff_ne_zero]
    intro h
    rw [List.countP_eq_zero] at h
    exact h 0 (List.mem_range.2 (by omega)) rfl
  | succ i ih =>
    by_cases h : ∀ j, (swp es 6 (rnd es i)).testBit j = true → (rnd es i).testBit j = true
    · left
      have hc := swp_same hok _ h
      have : swp es 6 (rnd es i) = rnd es i := Nat.eq_of_testBit_eq (fun j => by
        cases e : (swp es 6 (rnd es i)).testBit j
        · cases e2 : (rnd es i).testBit j
          · rfl
          · rw [swp_ge es 6 _ j e2] at e; cases e
        · exact (h j e).symm)
      show Clo es (swp es 6 (rnd es i))
      rw [this]; exact hc
    · right
      have hex : ∃ j, (swp es 6 (rnd es i)).testBit j = true ∧ (rnd es i).testBit j = false := by
        refine Classical.byContradiction (fun hno => h (fun j hj => ?_))
        cases e : (rnd es i).testBit j
        · exact absurd ⟨j, hj, e⟩ hno
        · rfl
      obtain ⟨j, h1, h2⟩ := hex
      have hjn : j < n := by
        have hrj := rnd_reach hr (i + 1) j h1
        have hlt := reach_lt hr n hn hb
        by_cases hh : j < n
        · exact hh
        · rw [Nat.testBit_lt_two_pow (Nat.lt_of_lt_of_le hlt (Nat.pow_le_pow_right (by decide) (by omega)))] at hrj
          cases hrj
      rcases ih with ih | ih
      · exfalso
        have := swp_reach (es := es) (r := rnd es i) ⟨by have := reach_lt hr n hn hb; exact Nat.lt_of_le_of_lt (Nat.le_of_testBit (fun j hj => rnd_reach hr i j hj)) hr.1, rnd_zero es i, ih, fun c hc hcl j hj => by
          have : IsReach es r := hr
          exact hr.2.2.2 c hc hcl j (rnd_reach hr i j hj)⟩ 6 (rnd es i) (fun _ h => h) j h1
        rw [this] at h2; cases h2
      · have hlt := countP_lt' (p := fun j => (rnd es i).testBit j) (q := fun j => (rnd es (i + 1)).testBit j) j (List.range n) (fun x _ hx => swp_ge es 6 _ x hx) (List.mem_range.2 hjn) h2 h1
        unfold cnt at ih ⊢
        omega
theorem rnd_done {es : List Edg} (hok : OkE es) (n : Nat) (hn : 1 ≤ n) (hb : ∀ e ∈ es, e.2.2.toNat < n) {r : Nat} (hr : IsReach es r) : rnd es (n - 1) = r := by
  have hclo : Clo es (rnd es (n - 1)) := by
    rcases rnd_grow hok n hn hb hr (n - 1) with h | h
    · exact h
    · have hle := cnt_le n (rnd es (n - 1))
      have hf := cnt_full n (rnd es (n - 1)) (by omega)
      exact fun e he _ => hf _ (hb e he)
  refine Nat.eq_of_testBit_eq (fun j => ?_)
  cases e : (rnd es (n - 1)).testBit j
  · cases e2 : r.testBit j
    · rfl
    · rw [hr.2.2.2 _ (rnd_zero es _) hclo j e2] at e; cases e
  · exact (rnd_reach hr _ j e).symm
end Go.Proofs.YtnjakhojdhkihaaGreatDoor
