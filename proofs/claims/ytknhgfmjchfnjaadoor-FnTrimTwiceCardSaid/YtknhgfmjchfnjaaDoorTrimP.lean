/- The trimmed system, in plain Lean: numbering the reached states anew keeps steps, runs, letters and counts. -/
import Derived.Test.YtknhgfmjchfnjaaDoorSysTrim
namespace Go.Proofs.YtknhgfmjchfnjaaDoor
open Go.RowKit
set_option linter.unusedVariables false
set_option linter.unusedSimpArgs false

theorem cnt_step (n s : Nat) : cnt (n + 1) s = cnt n s + (if s.testBit n = true then 1 else 0) := by
  unfold cnt
  rw [List.range_succ, List.countP_append]
  simp
theorem cnt_mono (s : Nat) (n : Nat) : ∀ d, cnt n s ≤ cnt (n + d) s
  | 0 => Nat.le_refl _
  | d + 1 => by
    rw [← Nat.add_assoc, cnt_step]
    have := cnt_mono s n d
    split <;> omega
theorem cnt_less (s q n : Nat) (h : q < n) (hb : s.testBit q = true) : cnt q s < cnt n s := by
  have h1 := cnt_step q s
  rw [if_pos hb] at h1
  have h2 := cnt_mono s (q + 1) (n - (q + 1))
  rw [show q + 1 + (n - (q + 1)) = n by omega] at h2
  omega
theorem cnt_inj (s p q : Nat) (hp : s.testBit p = true) (hq : s.testBit q = true) (h : cnt p s = cnt q s) : p = q := by
  rcases Nat.lt_trichotomy p q with h1 | h1 | h1
  · have := cnt_less s p q h1 hp; omega
  · exact h1
  · have := cnt_less s q p h1 hq; omega
theorem cnt_onto (s : Nat) : ∀ n j, j < cnt n s → ∃ q, q < n ∧ s.testBit q = true ∧ cnt q s = j
  | 0, j, h => by simp [cnt] at h
  | n + 1, j, h => by
    rw [cnt_step] at h
    by_cases hj : j < cnt n s
    · obtain ⟨q, h1, h2, h3⟩ := cnt_onto s n j hj
      exact ⟨q, by omega, h2, h3⟩
    · by_cases hb : s.testBit n = true
      · rw [if_pos hb] at h
        exact ⟨n, by omega, hb, by omega⟩
      · rw [if_neg hb] at h
        omega
/-- The new numbers of a set's members. -/
def imN (r s : Nat) : Nat := (List.range 16).foldl (fun o q => if s.testBit q = true then o ||| 2 ^ cnt q r else o) 0
theorem imN_bit (r s j : Nat) : (imN r s).testBit j = (List.range 16).any (fun q => decide (s.testBit q = true ∧ cnt q r = j)) := by
  rw [imN, foldl_bit]; simp
theorem imN_iff (r s j : Nat) (hs : s < 65536) : (imN r s).testBit j = true ↔ ∃ q, s.testBit q = true ∧ cnt q r = j := by
  rw [imN_bit, List.any_eq_true]
  constructor
  · rintro ⟨q, -, h⟩
    simp only [decide_eq_true_eq] at h
    exact ⟨q, h⟩
  · rintro ⟨q, h1, h2⟩
    have : q < 16 := by
      refine Classical.byContradiction fun hn => ?_
      rw [Nat.testBit_lt_two_pow (Nat.lt_of_lt_of_le (show s < 2 ^ 16 from hs) (Nat.pow_le_pow_right (by decide) (by omega)))] at h1
      cases h1
    exact ⟨q, List.mem_range.2 this, by simp only [decide_eq_true_eq]; exact ⟨h1, h2⟩⟩
theorem imN_lt (r s : Nat) (hr : r < 65536) : imN r s < 65536 := by
  refine lt_of_bits (k := 16) (fun j hj => ?_)
  rw [imN_bit, List.any_eq_false]
  intro q hq
  have hq := List.mem_range.1 hq
  have := cnt_le q r
  simp only [decide_eq_true_eq]
  omega
/-- A member's new number is among the new numbers of a part. -/
theorem imN_at {r s q : Nat} (hs : s < 65536) (hsub : ∀ j, s.testBit j = true → r.testBit j = true) (hq : r.testBit q = true) : (imN r s).testBit (cnt q r) = s.testBit q := by
  rw [Bool.eq_iff_iff, imN_iff r s _ hs]
  constructor
  · rintro ⟨p, h1, h2⟩
    rw [cnt_inj r p q (hsub p h1) hq h2] at h1
    exact h1
  · intro h
    exact ⟨q, h, rfl⟩
theorem keepE_mem {es : List Edg} {r : Nat} {e : Edg} : e ∈ keepE es r ↔ ∃ d ∈ es, hasB (r : Int) d.1 = true ∧ hasB (r : Int) d.2.2 = true ∧ renum r d = e := by
  unfold keepE
  simp only [List.mem_map, List.mem_filter, Bool.and_eq_true]
  constructor
  · rintro ⟨d, ⟨h1, h2, h3⟩, h4⟩; exact ⟨d, h1, h2, h3, h4⟩
  · rintro ⟨d, h1, h2, h3, h4⟩; exact ⟨d, ⟨h1, h2, h3⟩, h4⟩
/-- A step of the trimmed system. -/
theorem step_keep {es : List Edg} (hok : OkE es) {r s : Nat} (hr : r < 65536) (hc : Clo es r) (hs : s < 65536) (hsub : ∀ j, s.testBit j = true → r.testBit j = true) (x : Int) : stepN (keepE es r) (imN r s) x = imN r (stepN es s x) := by
  refine Nat.eq_of_testBit_eq (fun j => ?_)
  rw [Bool.eq_iff_iff, imN_iff r _ j (stepN_lt hok s x), stepN_bit, List.any_eq_true]
  constructor
  · rintro ⟨e, he, h⟩
    simp only [decide_eq_true_eq] at h
    obtain ⟨⟨h1, h2⟩, h3⟩ := h
    obtain ⟨d, hd, h4, h5, rfl⟩ := keepE_mem.1 he
    have ho := hok d hd
    have hb1 := hasB_bit h4
    have hb2 := hasB_bit h5
    have h1' : d.2.1 = x := h1
    have h3' : cnt d.2.2.toNat r = j := by
      have : (((cnt d.2.2.toNat r : Nat) : Int)).toNat = j := h3
      rwa [Int.toNat_natCast] at this
    have h2' : (imN r s).testBit (cnt d.1.toNat r) = true := by
      have : hasB ((imN r s : Nat) : Int) ((cnt d.1.toNat r : Nat) : Int) = true := h2
      have := hasB_bit this
      rwa [Int.toNat_natCast] at this
    rw [imN_at hs hsub hb1] at h2'
    refine ⟨d.2.2.toNat, ?_, h3'⟩
    rw [stepN_bit, List.any_eq_true]
    refine ⟨d, hd, ?_⟩
    simp only [decide_eq_true_eq]
    refine ⟨⟨h1', ?_⟩, by first | rfl | trivial⟩
    unfold hasB
    simp only [Bool.and_eq_true, decide_eq_true_eq, Int.toNat_natCast]
    exact ⟨by omega, h2'⟩
  · rintro ⟨q, h1, h2⟩
    rw [stepN_bit, List.any_eq_true] at h1
    obtain ⟨d, hd, h⟩ := h1
    simp only [decide_eq_true_eq] at h
    obtain ⟨⟨h3, h4⟩, h5⟩ := h
    have ho := hok d hd
    have hb := hasB_bit h4
    have hb1 := hsub _ hb
    have hb2 := hc d hd hb1
    refine ⟨renum r d, keepE_mem.2 ⟨d, hd, ?_, ?_, rfl⟩, ?_⟩
    · unfold hasB; simp only [Bool.and_eq_true, decide_eq_true_eq, Int.toNat_natCast]; exact ⟨by omega, hb1⟩
    · unfold hasB; simp only [Bool.and_eq_true, decide_eq_true_eq, Int.toNat_natCast]; exact ⟨by omega, hb2⟩
    · simp only [decide_eq_true_eq]
      refine ⟨⟨h3, ?_⟩, ?_⟩
      · show hasB ((imN r s : Nat) : Int) ((cnt d.1.toNat r : Nat) : Int) = true
        unfold hasB
        simp only [Bool.and_eq_true, decide_eq_true_eq, Int.toNat_natCast]
        refine ⟨by omega, ?_⟩
        rw [imN_at hs hsub hb1]
        exact hb
      · show (((cnt d.2.2.toNat r : Nat) : Int)).toNat = j
        rw [Int.toNat_natCast, h5, h2]
theorem imN_one {r : Nat} (h0 : r.testBit 0 = true) : imN r 1 = 1 := by
  refine Nat.eq_of_testBit_eq (fun j => ?_)
  rw [Bool.eq_iff_iff, imN_iff r 1 j (by decide)]
  constructor
  · rintro ⟨q, h1, h2⟩
    cases q with
    | zero => rw [← h2]; show (1 : Nat).testBit (cnt 0 r) = true; have : cnt 0 r = 0 := by simp [cnt]
              rw [this]; rfl
    | succ q => rw [Nat.testBit_succ] at h1; simp at h1
  · intro h
    cases j with
    | zero => exact ⟨0, rfl, by simp [cnt]⟩
    | succ j => rw [Nat.testBit_succ] at h; simp at h
theorem imN_zero (r : Nat) : imN r 0 = 0 := by
  refine Nat.eq_of_testBit_eq (fun j => ?_)
  rw [imN_bit, Nat.zero_testBit, List.any_eq_false]
  intro q _
  simp
theorem imN_ne {r s : Nat} (hs : s < 65536) (h : s ≠ 0) : imN r s ≠ 0 := by
  obtain ⟨q, hq⟩ := Nat.exists_testBit_of_ne_zero h
  intro h0
  have := (imN_iff r s (cnt q r) hs).2 ⟨q, hq, rfl⟩
  rw [h0, Nat.zero_testBit] at this
  cases this
/-- A run of the trimmed system. -/
theorem run_keep {es : List Edg} (hok : OkE es) {r : Nat} (h : IsReach es r) (l : List UInt8) : ∀ s : Nat, s < 65536 → (∀ j, s.testBit j = true → r.testBit j = true) → l.foldl (fun s c => stepN (keepE es r) s (ltr c)) (imN r s) = imN r (l.foldl (fun s c => stepN es s (ltr c)) s) := by
  induction l with
  | nil => intro s _ _; rfl
  | cons c t ih =>
    intro s hs hsub
    rw [List.foldl_cons, List.foldl_cons, step_keep hok h.1 h.2.2.1 hs hsub]
    exact ih _ (stepN_lt hok s _) (fun j hj => clo_step h.2.2.1 s (ltr c) hsub j hj)
theorem runN_keep {es : List Edg} (hok : OkE es) {r : Nat} (h : IsReach es r) (l : List UInt8) : runN (keepE es r) l = imN r (runN es l) := by
  have := run_keep hok h l 1 (by decide) (fun j hj => by
    cases j with
    | zero => exact h.2.1
    | succ j => rw [Nat.testBit_succ] at hj; simp at hj)
  rw [imN_one h.2.1] at this
  exact this
/-- The letters that leave a set stay. -/
theorem let_keep {es : List Edg} (hok : OkE es) {r s : Nat} (hr : r < 65536) (hc : Clo es r) (hs : s < 65536) (hsub : ∀ j, s.testBit j = true → r.testBit j = true) : letN (keepE es r) (imN r s) = letN es s := by
  refine Nat.eq_of_testBit_eq (fun j => ?_)
  rw [Bool.eq_iff_iff, letN_bit, letN_bit, List.any_eq_true, List.any_eq_true]
  constructor
  · rintro ⟨e, he, h⟩
    simp only [decide_eq_true_eq] at h
    obtain ⟨d, hd, h4, h5, rfl⟩ := keepE_mem.1 he
    have ho := hok d hd
    have hb1 := hasB_bit h4
    have h2' : (imN r s).testBit (cnt d.1.toNat r) = true := by
      have : hasB ((imN r s : Nat) : Int) ((cnt d.1.toNat r : Nat) : Int) = true := h.1
      have := hasB_bit this
      rwa [Int.toNat_natCast] at this
    rw [imN_at hs hsub hb1] at h2'
    refine ⟨d, hd, ?_⟩
    simp only [decide_eq_true_eq]
    refine ⟨?_, h.2⟩
    unfold hasB
    simp only [Bool.and_eq_true, decide_eq_true_eq, Int.toNat_natCast]
    exact ⟨by omega, h2'⟩
  · rintro ⟨d, hd, h⟩
    simp only [decide_eq_true_eq] at h
    have ho := hok d hd
    have hb := hasB_bit h.1
    have hb1 := hsub _ hb
    have hb2 := hc d hd hb1
    refine ⟨renum r d, keepE_mem.2 ⟨d, hd, ?_, ?_, rfl⟩, ?_⟩
    · unfold hasB; simp only [Bool.and_eq_true, decide_eq_true_eq, Int.toNat_natCast]; exact ⟨by omega, hb1⟩
    · unfold hasB; simp only [Bool.and_eq_true, decide_eq_true_eq, Int.toNat_natCast]; exact ⟨by omega, hb2⟩
    · simp only [decide_eq_true_eq]
      refine ⟨?_, h.2⟩
      show hasB ((imN r s : Nat) : Int) ((cnt d.1.toNat r : Nat) : Int) = true
      unfold hasB
      simp only [Bool.and_eq_true, decide_eq_true_eq, Int.toNat_natCast]
      refine ⟨by omega, ?_⟩
      rw [imN_at hs hsub hb1]
      exact hb
/-- As many members. -/
theorem imN_cnt {r s : Nat} (hs : s < 65536) (hsub : ∀ j, s.testBit j = true → r.testBit j = true) : ∀ n, cnt (cnt n r) (imN r s) = cnt n s
  | 0 => rfl
  | n + 1 => by
    have ih := imN_cnt hs hsub n
    rw [cnt_step n r, cnt_step n s]
    by_cases hb : r.testBit n = true
    · rw [if_pos hb, cnt_step, ih, imN_at hs hsub hb]
    · have : ¬ s.testBit n = true := fun h => hb (hsub n h)
      rw [if_neg hb, if_neg this, Nat.add_zero, Nat.add_zero, ih]
theorem cnt16_im {r s : Nat} (hr : r < 65536) (hs : s < 65536) (hsub : ∀ j, s.testBit j = true → r.testBit j = true) : cnt 16 (imN r s) = cnt 16 s := by
  have h1 := imN_cnt hs hsub 16
  have h2 := cnt_le 16 r
  have h3 : imN r s < 2 ^ cnt 16 r := by
    refine lt_of_bits (k := cnt 16 r) (fun j hj => ?_)
    rw [imN_bit, List.any_eq_false]
    intro q hq
    have hq := List.mem_range.1 hq
    simp only [decide_eq_true_eq]
    rintro ⟨h4, h5⟩
    have := cnt_less r q 16 hq (hsub q h4)
    omega
  have h4 := cnt_under (cnt 16 r) (imN r s) h3 (16 - cnt 16 r)
  rw [show cnt 16 r + (16 - cnt 16 r) = 16 by omega] at h4
  rw [h4, h1]
/-- A system by its order: what SystemValid says. -/
theorem sysV_pairs {al st : Int} {es : List Edg} (h : sysV al st es = true) : es.Pairwise (fun a b => ltE a b = true) := by
  have hok := sysV_ok h
  have hst : ∀ k, k < es.length → stepOK al st es k = true := by
    unfold sysV at h
    simp only [Bool.and_eq_true, List.all_eq_true] at h
    exact fun k hk => h.2.2 k (List.mem_range.2 hk)
  have hco : ∀ i d, i + d + 1 < es.length → codeE (Edg.at es i) < codeE (Edg.at es (i + d + 1)) := by
    intro i d
    induction d with
    | zero =>
      intro hd
      have h1 := hst (i + 1) hd
      unfold stepOK at h1
      simp only [Bool.and_eq_true, Bool.or_eq_true, decide_eq_true_eq] at h1
      rcases h1.2 with h2 | h2
      · omega
      · rw [Nat.add_sub_cancel] at h2
        exact codeE_lt h2 (hok.at i (by omega)) (hok.at (i + 1) hd)
    | succ d ih =>
      intro hd
      have h1 := hst (i + (d + 1) + 1) hd
      unfold stepOK at h1
      simp only [Bool.and_eq_true, Bool.or_eq_true, decide_eq_true_eq] at h1
      rcases h1.2 with h2 | h2
      · omega
      · rw [Nat.add_sub_cancel] at h2
        have h3 := codeE_lt h2 (hok.at (i + (d + 1)) (by omega)) (hok.at (i + (d + 1) + 1) hd)
        have h4 := ih (by omega)
        rw [Nat.add_assoc] at h4
        exact Nat.lt_trans h4 h3
  rw [List.pairwise_iff_getElem]
  intro i j hi hj hij
  have h1 := hco i (j - i - 1) (by omega)
  rw [show i + (j - i - 1) + 1 = j by omega] at h1
  have e1 : Edg.at es i = es[i] := by unfold Edg.at; rw [List.getElem?_eq_getElem hi]; rfl
  have e2 : Edg.at es j = es[j] := by unfold Edg.at; rw [List.getElem?_eq_getElem hj]; rfl
  have o1 := hok.at i hi
  have o2 := hok.at j hj
  rw [e1] at h1 o1
  rw [e2] at h1 o2
  generalize es[i] = a at h1 o1
  generalize es[j] = b at h1 o2
  unfold codeE at h1
  unfold ltE
  split
  · rw [decide_eq_true_eq]; omega
  · split
    · rw [decide_eq_true_eq]; omega
    · rw [decide_eq_true_eq]; omega
theorem sysV_of {al st : Int} {es : List Edg} (h1 : isA al = true) (h2 : 1 ≤ st) (h3 : st ≤ 16) (h4 : ∀ e ∈ es, edgeOK al st e = true) (h5 : es.Pairwise (fun a b => ltE a b = true)) : sysV al st es = true := by
  unfold sysV
  simp only [Bool.and_eq_true, decide_eq_true_eq, List.all_eq_true]
  refine ⟨h1, ⟨h2, h3⟩, fun k hk => ?_⟩
  have hk := List.mem_range.1 hk
  unfold stepOK
  simp only [Bool.and_eq_true, Bool.or_eq_true, decide_eq_true_eq]
  have e1 : Edg.at es k = es[k] := by unfold Edg.at; rw [List.getElem?_eq_getElem hk]; rfl
  refine ⟨by rw [e1]; exact h4 _ (List.getElem_mem _), ?_⟩
  by_cases h0 : k = 0
  · exact .inl h0
  · right
    have hk1 : k - 1 < es.length := by omega
    have e2 : Edg.at es (k - 1) = es[k - 1] := by unfold Edg.at; rw [List.getElem?_eq_getElem hk1]; rfl
    rw [e1, e2]
    exact (List.pairwise_iff_getElem.1 h5) (k - 1) k hk1 hk (by omega)
theorem hasB_in {r : Nat} {x : Int} (h : hasB (r : Int) x = true) : 0 ≤ x ∧ r.testBit x.toNat = true := by
  unfold hasB at h
  simp only [Bool.and_eq_true, decide_eq_true_eq, Int.toNat_natCast] at h
  exact h
theorem renum_less {r : Nat} {a b : Edg} (ha : hasB (r : Int) a.1 = true ∧ hasB (r : Int) a.2.2 = true) (hb : hasB (r : Int) b.1 = true ∧ hasB (r : Int) b.2.2 = true) (h : ltE a b = true) : ltE (renum r a) (renum r b) = true := by
  obtain ⟨f, l, t⟩ := a
  obtain ⟨f', l', t'⟩ := b
  obtain ⟨⟨p1, p2⟩, p3, p4⟩ := And.intro (hasB_in ha.1) (hasB_in ha.2)
  obtain ⟨⟨q1, q2⟩, q3, q4⟩ := And.intro (hasB_in hb.1) (hasB_in hb.2)
  dsimp only at p1 p2 p3 p4 q1 q2 q3 q4
  unfold renum
  unfold ltE at h ⊢
  dsimp only at h ⊢
  by_cases e1 : f = f'
  · subst e1
    by_cases e2 : l = l'
    · subst e2
      simp at h ⊢
      have := cnt_less r t.toNat t'.toNat (by omega) p4
      omega
    · simp [e2] at h ⊢
      exact h
  · have hlt : f < f' := by simpa [e1] using h
    have := cnt_less r f.toNat f'.toNat (by omega) p2
    have hne : ¬ ((cnt f.toNat r : Nat) : Int) = ((cnt f'.toNat r : Nat) : Int) := by omega
    simp [hne]
    omega
/-- The trimmed system is valid. -/
theorem sysV_keep {al st : Int} {es : List Edg} (h : sysV al st es = true) {r : Nat} (hr : IsReach es r) : sysV al ((cnt 16 r : Nat) : Int) (keepE es r) = true := by
  obtain ⟨h1, h2, h3, h4⟩ := sysV_facts h
  have hok := sysV_ok h
  have hc1 : 1 ≤ cnt 16 r := by
    have := cnt_less r 0 16 (by decide) hr.2.1
    omega
  have hc2 := cnt_le 16 r
  refine sysV_of h1 (by omega) (by omega) (fun e he => ?_) ?_
  · obtain ⟨d, hd, h5, h6, rfl⟩ := keepE_mem.1 he
    have hf := edgeOK_facts (h4 d hd)
    have ho := hok d hd
    have b1 := hasB_in h5
    have b2 := hasB_in h6
    have c1 := cnt_less r d.1.toNat 16 (by omega) b1.2
    have c2 := cnt_less r d.2.2.toNat 16 (by omega) b2.2
    unfold renum edgeOK
    dsimp only
    simp only [Bool.and_eq_true, decide_eq_true_eq]
    exact ⟨⟨by omega, by omega⟩, ⟨by omega, by omega⟩, hf.2.2.1, hf.2.2.2⟩
  · unfold keepE
    rw [List.pairwise_map]
    refine List.Pairwise.imp_of_mem (R := fun a b => ltE a b = true) ?_ ((sysV_pairs h).filter _)
    intro a b ha hb hab
    have ha := (List.mem_filter.1 ha).2
    have hb := (List.mem_filter.1 hb).2
    simp only [Bool.and_eq_true] at ha hb
    exact renum_less ha hb hab
/-- A trimmed system's words. -/
theorem aft_keep {al st : Int} {es : List Edg} (h : sysV al st es = true) {r : Nat} (hr : IsReach es r) (l : List UInt8) : aftN al ((cnt 16 r : Nat) : Int) (keepE es r) l = imN r (aftN al st es l) := by
  have hk := sysV_keep h hr
  cases hw : within l al with
  | false => rw [aftN_no2 _ _ _ _ hw, aftN_no2 _ _ _ _ hw, imN_zero]
  | true => rw [aftN_yes _ _ _ _ hk hw, aftN_yes _ _ _ _ h hw, runN_keep (sysV_ok h) hr]
theorem pow_sub_bit (c j : Nat) : (2 ^ c - 1).testBit j = decide (j < c) := by rw [Nat.testBit_two_pow_sub_one]
/-- All of a trimmed system is reached. -/
theorem reach_keep {al st : Int} {es : List Edg} (h : sysV al st es = true) {r : Nat} (hr : IsReach es r) : IsReach (keepE es r) (2 ^ cnt 16 r - 1) := by
  have hok := sysV_ok h
  have hc1 : 1 ≤ cnt 16 r := by
    have := cnt_less r 0 16 (by decide) hr.2.1
    omega
  have hc2 := cnt_le 16 r
  have hp : 2 ^ cnt 16 r ≤ 2 ^ 16 := Nat.pow_le_pow_right (by decide) hc2
  have hp0 := Nat.pow_pos (n := cnt 16 r) (show 0 < 2 by decide)
  refine ⟨by omega, by rw [pow_sub_bit]; simp; omega, fun e he _ => ?_, fun c hc0 hcc j hj => ?_⟩
  · obtain ⟨d, hd, h5, h6, rfl⟩ := keepE_mem.1 he
    have ho := hok d hd
    have b2 := hasB_in h6
    have c2 := cnt_less r d.2.2.toNat 16 (by omega) b2.2
    rw [pow_sub_bit, decide_eq_true_eq]
    show (((cnt d.2.2.toNat r : Nat) : Int)).toNat < _
    rw [Int.toNat_natCast]
    exact c2
  · rw [pow_sub_bit, decide_eq_true_eq] at hj
    obtain ⟨q, h1, h2, h3⟩ := cnt_onto r 16 j hj
    -- the members whose new numbers lie in c
    have key := hr.2.2.2 ((List.range 16).foldl (fun o q => if r.testBit q = true ∧ c.testBit (cnt q r) = true then o ||| 2 ^ q else o) 0)
    have bit : ∀ p, ((List.range 16).foldl (fun o q => if r.testBit q = true ∧ c.testBit (cnt q r) = true then o ||| 2 ^ q else o) 0).testBit p = true ↔ (p < 16 ∧ r.testBit p = true ∧ c.testBit (cnt p r) = true) := by
      intro p
      rw [foldl_bit (fun q => r.testBit q = true ∧ c.testBit (cnt q r) = true) (fun q => q)]
      simp only [Nat.zero_testBit, Bool.false_or, List.any_eq_true, decide_eq_true_eq, List.mem_range]
      constructor
      · rintro ⟨x, hx, hy, rfl⟩; exact ⟨hx, hy.1, hy.2⟩
      · rintro ⟨hx, hy, hz⟩; exact ⟨p, hx, ⟨hy, hz⟩, rfl⟩
    have h4 := key ((bit 0).2 ⟨by decide, hr.2.1, by simpa [cnt] using hc0⟩) (fun e he hb => by
      obtain ⟨b1, b2, b3⟩ := (bit _).1 hb
      have ho := hok e he
      have b4 := hr.2.2.1 e he b2
      refine (bit _).2 ⟨by omega, b4, ?_⟩
      have hm : renum r e ∈ keepE es r := keepE_mem.2 ⟨e, he, by unfold hasB; simp only [Bool.and_eq_true, decide_eq_true_eq, Int.toNat_natCast]; exact ⟨by omega, b2⟩, by unfold hasB; simp only [Bool.and_eq_true, decide_eq_true_eq, Int.toNat_natCast]; exact ⟨by omega, b4⟩, rfl⟩
      have h5 := hcc _ hm
      have h6 : c.testBit (((cnt e.1.toNat r : Nat) : Int)).toNat = true → c.testBit (((cnt e.2.2.toNat r : Nat) : Int)).toNat = true := h5
      rw [Int.toNat_natCast, Int.toNat_natCast] at h6
      exact h6 b3) q h2
    have h5 := ((bit q).1 h4).2.2
    rw [h3] at h5
    exact h5
/-- In a full set a number's rank is the number. -/
theorem cnt_all (c : Nat) : ∀ q, q ≤ c → cnt q (2 ^ c - 1) = q
  | 0, _ => rfl
  | q + 1, h => by
    rw [cnt_step, cnt_all c q (by omega), pow_sub_bit]
    have : q < c := by omega
    simp [this]
theorem keep_all {es : List Edg} {c : Nat} (h : ∀ e ∈ es, (0 ≤ e.1 ∧ e.1 < c) ∧ 0 ≤ e.2.2 ∧ e.2.2 < c) : keepE es (2 ^ c - 1) = es := by
  unfold keepE
  have e1 : es.filter (fun e => hasB ((2 ^ c - 1 : Nat) : Int) e.1 && hasB ((2 ^ c - 1 : Nat) : Int) e.2.2) = es := by
    rw [List.filter_eq_self]
    intro e he
    have := h e he
    unfold hasB
    simp only [Int.toNat_natCast, pow_sub_bit, Bool.and_eq_true, decide_eq_true_eq]
    omega
  rw [e1]
  conv => rhs; rw [← List.map_id es]
  refine List.map_congr_left (fun e he => ?_)
  obtain ⟨f, l, t⟩ := e
  have := h _ he
  dsimp only at this
  unfold renum
  dsimp only
  rw [cnt_all c f.toNat (by omega), cnt_all c t.toNat (by omega)]
  show (_, _, _) = (_, _, _)
  rw [Int.toNat_of_nonneg (by omega), Int.toNat_of_nonneg (by omega)]
/-- Trimmed systems are trimmed. -/
theorem keep_twice {al st : Int} {es : List Edg} (h : sysV al st es = true) {r : Nat} (hr : IsReach es r) : keepE (keepE es r) (2 ^ cnt 16 r - 1) = keepE es r ∧ cnt 16 (2 ^ cnt 16 r - 1) = cnt 16 r := by
  have hok := sysV_ok h
  have hc2 := cnt_le 16 r
  refine ⟨keep_all (fun e he => ?_), ?_⟩
  · obtain ⟨d, hd, h5, h6, rfl⟩ := keepE_mem.1 he
    have ho := hok d hd
    have b1 := hasB_in h5
    have b2 := hasB_in h6
    have c1 := cnt_less r d.1.toNat 16 (by omega) b1.2
    have c2 := cnt_less r d.2.2.toNat 16 (by omega) b2.2
    unfold renum
    dsimp only
    omega
  · have hp0 := Nat.pow_pos (n := cnt 16 r) (show 0 < 2 by decide)
    have h1 := cnt_under (cnt 16 r) (2 ^ cnt 16 r - 1) (by omega) (16 - cnt 16 r)
    rw [show cnt 16 r + (16 - cnt 16 r) = 16 by omega] at h1
    rw [h1, cnt_all _ _ (Nat.le_refl _)]
end Go.Proofs.YtknhgfmjchfnjaaDoor
