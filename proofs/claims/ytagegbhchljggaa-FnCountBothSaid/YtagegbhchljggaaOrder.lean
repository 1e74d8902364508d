/- The plain mathematics of numbers of words, of the order of words and of next words: no program in sight. -/
import Derived.Test.YtagegbhchljggaaPlain
import GoSem.Op.String
namespace Go.Proofs.Ytagegbhchljggaa
set_option linter.unusedVariables false
set_option linter.unusedSimpArgs false

theorem place_at (a : Int) (ha : isA a = true) (j : Nat) (h : j < (lets a).length) : placeN a ((lets a)[j]?.getD 0) = j ∧ hasB a ((lets a)[j]?.getD 0) = true := by
  obtain ⟨h2, h3⟩ := (isA_iff a).1 ha
  have key : ∀ n : Fin 64, ∀ j : Fin 6, j.val < (lets (n.val : Int)).length → placeN (n.val : Int) ((lets (n.val : Int))[j.val]?.getD 0) = j.val ∧ hasB (n.val : Int) ((lets (n.val : Int))[j.val]?.getD 0) = true := by decide +kernel
  obtain ⟨n, rfl⟩ := Int.eq_ofNat_of_zero_le h2
  exact key ⟨n, by omega⟩ ⟨j, by have := lets_len (n : Int); omega⟩ h
theorem lets_at_lb (a : Int) (ha : isA a = true) (j : Nat) (h : j < (lets a).length) : ltr (lb ((lets a)[j]?.getD 0)) = (lets a)[j]?.getD 0 := by
  have := lets_at a j h
  rw [List.getElem?_eq_getElem h]
  exact ltr_lb _ this.1 this.2
theorem okL_lb (a : Int) (ha : isA a = true) (j : Nat) (h : j < (lets a).length) : okL a (lb ((lets a)[j]?.getD 0)) = true := by
  unfold okL; rw [lets_at_lb a ha j h]; exact (place_at a ha j h).2
/-- The place of a letter: its facts. -/
theorem place_ok (a : Int) (ha : isA a = true) (c : UInt8) (h : okL a c = true) : placeN a (ltr c) < (lets a).length ∧ lb ((lets a)[placeN a (ltr c)]?.getD 0) = c := by
  have h0 := okL_nonneg h
  obtain ⟨_, h1, h2⟩ := idx_place a (ltr c) ha h0 (ltr_lt c) h
  exact ⟨h1, by rw [h2]; exact lb_ltr c h0⟩

/-- The number of a word that goes on from m. -/
def val (a : Int) (m : Nat) (l : List UInt8) : Nat := l.foldl (fun n c => n * (lets a).length + placeN a (ltr c) + 1) m
theorem numN_val (a : Int) (l : List UInt8) : numN a l = val a 0 l := rfl
theorem val_nil (a : Int) (m : Nat) : val a m [] = m := rfl
theorem val_cons (a : Int) (m : Nat) (c : UInt8) (l : List UInt8) : val a m (c :: l) = val a (m * (lets a).length + placeN a (ltr c) + 1) l := rfl
theorem val_snoc (a : Int) (m : Nat) (c : UInt8) (l : List UInt8) : val a m (l ++ [c]) = val a m l * (lets a).length + placeN a (ltr c) + 1 := by simp [val, List.foldl_append]

theorem wat_val (a : Int) (ha : isA a = true) : ∀ (f m : Nat) (out l : List UInt8), wat (lets a) f m out = some l → val a 0 l = val a m out ∧ l.length ≤ f + out.length ∧ (out.all (okL a) = true → l.all (okL a) = true) := by
  intro f
  induction f with
  | zero =>
    intro m out l h
    cases m with
    | zero => simp [wat] at h; subst h; exact ⟨rfl, by omega, id⟩
    | succ m => simp [wat] at h
  | succ f ih =>
    intro m out l h
    cases m with
    | zero => simp [wat] at h; subst h; exact ⟨rfl, by omega, id⟩
    | succ p =>
      by_cases hz : (lets a).length = 0
      · simp [wat, hz] at h
      · have hj : p % (lets a).length < (lets a).length := Nat.mod_lt _ (by omega)
        simp only [wat, hz, if_false] at h
        obtain ⟨h1, h2, h3⟩ := ih _ _ _ h
        refine ⟨?_, by simp at h2; omega, fun ho => h3 (by simp only [List.all_cons, Bool.and_eq_true]; exact ⟨okL_lb a ha _ hj, ho⟩)⟩
        rw [h1, val_cons, lets_at_lb a ha _ hj, (place_at a ha _ hj).1, Nat.div_add_mod' p]

theorem wat_num (a : Int) (ha : isA a = true) : ∀ (r : List UInt8) (f : Nat) (out : List UInt8), r.all (okL a) = true → r.length ≤ f → wat (lets a) f (numN a r.reverse) out = some (r.reverse ++ out) := by
  intro r
  induction r with
  | nil => intro f out _ _; simp [numN, wat_zero]
  | cons c r ih =>
    intro f out h hl
    simp only [List.all_cons, Bool.and_eq_true] at h
    obtain ⟨f', rfl⟩ : ∃ f', f = f' + 1 := ⟨f - 1, by simp at hl; omega⟩
    have hp := place_ok a ha c h.1
    rw [List.reverse_cons, numN_snoc, wat_step _ _ _ _ (by omega) (by omega), Nat.add_sub_cancel]
    have hd : (numN a r.reverse * (lets a).length + placeN a (ltr c)) / (lets a).length = numN a r.reverse := by
      rw [Nat.mul_comm, Nat.mul_add_div (by omega), Nat.div_eq_of_lt hp.1]; omega
    have hm : (numN a r.reverse * (lets a).length + placeN a (ltr c)) % (lets a).length = placeN a (ltr c) := by
      rw [Nat.mul_comm, Nat.mul_add_mod, Nat.mod_eq_of_lt hp.1]
    rw [hd, hm, hp.2, ih f' _ h.2 (by simp at hl; omega)]
    simp

theorem num_inj (a : Int) (ha : isA a = true) (l l' : List UInt8) (h : l.all (okL a) = true) (h' : l'.all (okL a) = true) (he : numN a l = numN a l') : l = l' := by
  have e1 := wat_num a ha l.reverse (l.length + l'.length) [] (by simpa using h) (by simp)
  have e2 := wat_num a ha l'.reverse (l.length + l'.length) [] (by simpa using h') (by simp)
  rw [List.reverse_reverse] at e1 e2
  rw [he, e2] at e1
  simpa using e1.symm

/-- What WordAt gives. -/
theorem wordAt_some {n a : Int} {l : List UInt8} (h : wordAt n a = some l) : isA a = true ∧ 0 ≤ n ∧ l.all (okL a) = true ∧ l.length ≤ 7 ∧ (numN a l : Int) = n := by
  unfold wordAt at h
  split at h
  · rename_i hc
    obtain ⟨h1, h2, h3⟩ := wat_val a hc.1 _ _ _ _ h
    refine ⟨hc.1, hc.2, h3 rfl, by simpa using h2, ?_⟩
    rw [numN_val, h1, val_nil]; omega
  · cases h
theorem wordAt_num {a : Int} {l : List UInt8} (ha : isA a = true) (h : l.all (okL a) = true) (hl : l.length ≤ 7) : wordAt (numN a l : Int) a = some l := by
  have := wat_num a ha l.reverse 7 [] (by simpa using h) (by simpa using hl)
  rw [List.reverse_reverse] at this
  simp [wordAt, ha, this]

theorem val_mono_m (a : Int) (ha : isA a = true) : ∀ (l l' : List UInt8) (m m' : Nat), l.all (okL a) = true → l.length = l'.length → m < m' → val a m l < val a m' l' := by
  intro l
  induction l with
  | nil =>
    intro l' m m' _ hl h
    have : l' = [] := List.eq_nil_of_length_eq_zero (by simpa using hl.symm)
    subst this; exact h
  | cons c l ih =>
    intro l' m m' hall hl h
    cases l' with
    | nil => simp at hl
    | cons c' l' =>
      simp only [List.all_cons, Bool.and_eq_true] at hall
      have hp := (place_ok a ha c hall.1).1
      rw [val_cons, val_cons]
      refine ih l' _ _ hall.2 (by simpa using hl) ?_
      have h1 : (m + 1) * (lets a).length ≤ m' * (lets a).length := Nat.mul_le_mul_right _ h
      rw [Nat.add_mul, Nat.one_mul] at h1
      omega
theorem val_short (a : Int) (ha : isA a = true) : ∀ (l' l : List UInt8) (m : Nat), l.all (okL a) = true → l.length < l'.length → val a 0 l < val a m l' := by
  intro l'
  induction l' with
  | nil => intro l m _ h; simp at h
  | cons c l' ih =>
    intro l m hall h
    rw [val_cons]
    by_cases he : l.length = l'.length
    · exact val_mono_m a ha l l' _ _ hall he (by omega)
    · exact ih l _ hall (by simp at h; omega)

theorem place_mono (a x y : Int) (ha : isA a = true) (hx : hasB a x = true) (hx0 : 0 ≤ x) (hxy : x < y) (hy : y < 6) : placeN a x < placeN a y := by
  obtain ⟨h2, h3⟩ := (isA_iff a).1 ha
  have key : ∀ n : Fin 64, ∀ x y : Fin 6, hasB (n.val : Int) (x.val : Int) = true → x.val < y.val → placeN (n.val : Int) (x.val : Int) < placeN (n.val : Int) (y.val : Int) := by decide +kernel
  obtain ⟨n, rfl⟩ := Int.eq_ofNat_of_zero_le h2
  obtain ⟨x, rfl⟩ := Int.eq_ofNat_of_zero_le hx0
  obtain ⟨y, rfl⟩ := Int.eq_ofNat_of_zero_le (show 0 ≤ y by omega)
  exact key ⟨n, by omega⟩ ⟨x, by omega⟩ ⟨y, by omega⟩ hx (by simpa using hxy)

theorem ltr_lt_iff (c c' : UInt8) (h : 0 ≤ ltr c) (h' : 0 ≤ ltr c') : (c < c') ↔ ltr c < ltr c' := by
  rw [UInt8.lt_iff_toNat_lt]
  unfold ltr at *
  split at h <;> split at h' <;> omega
theorem ltr_inj (c c' : UInt8) (h : 0 ≤ ltr c) (h' : 0 ≤ ltr c') (he : ltr c = ltr c') : c = c' := by
  rw [← lb_ltr c h, ← lb_ltr c' h', he]

theorem val_same (a : Int) (ha : isA a = true) : ∀ (l l' : List UInt8) (m : Nat), l.all (okL a) = true → l'.all (okL a) = true → l.length = l'.length → (Op.bytesLess l l' = true ↔ val a m l < val a m l') := by
  intro l
  induction l with
  | nil =>
    intro l' m _ _ hl
    have : l' = [] := List.eq_nil_of_length_eq_zero (by simpa using hl.symm)
    subst this
    simp [Op.bytesLess, val]
  | cons c l ih =>
    intro l' m hall hall' hl
    cases l' with
    | nil => simp at hl
    | cons c' l' =>
      simp only [List.all_cons, Bool.and_eq_true] at hall hall'
      have hlen : l.length = l'.length := by simpa using hl
      have h0 := okL_nonneg hall.1
      have h0' := okL_nonneg hall'.1
      rw [val_cons, val_cons]
      by_cases he : c = c'
      · subst he
        simp only [Op.bytesLess, UInt8.lt_irrefl, decide_false, beq_self_eq_true, Bool.true_and, Bool.false_or]
        exact ih l' _ hall.2 hall'.2 hlen
      · have hne : ltr c ≠ ltr c' := fun h => he (ltr_inj c c' h0 h0' h)
        by_cases hlt : ltr c < ltr c'
        · have h1 : c < c' := (ltr_lt_iff c c' h0 h0').2 hlt
          have h2 := place_mono a (ltr c) (ltr c') ha hall.1 h0 hlt (ltr_lt c')
          simp only [Op.bytesLess, h1, decide_true, Bool.true_or, true_iff]
          exact val_mono_m a ha l l' _ _ hall.2 hlen (by omega)
        · have h1 : ¬ c < c' := fun h => hlt ((ltr_lt_iff c c' h0 h0').1 h)
          have h2 := place_mono a (ltr c') (ltr c) ha hall'.1 h0' (by omega) (ltr_lt c)
          have h3 : (c == c') = false := by simpa using he
          simp only [Op.bytesLess, h1, decide_false, h3, Bool.false_and, Bool.or_false]
          have := val_mono_m a ha l' l (m * (lets a).length + placeN a (ltr c') + 1) (m * (lets a).length + placeN a (ltr c) + 1) hall'.2 hlen.symm (by omega)
          constructor
          · intro h; cases h
          · intro h; omega

/-- Shortlex order, on lists. -/
def lessL (l l' : List UInt8) : Bool := decide (l.length < l'.length) || (decide (l.length = l'.length) && Op.bytesLess l l')
theorem less_num (a : Int) (ha : isA a = true) (l l' : List UInt8) (h : l.all (okL a) = true) (h' : l'.all (okL a) = true) : lessL l l' = decide (numN a l < numN a l') := by
  rw [Bool.eq_iff_iff, decide_eq_true_iff]
  by_cases h1 : l.length < l'.length
  · simp only [lessL, h1, decide_true, Bool.true_or, true_iff]; exact val_short a ha l' l 0 h h1
  · by_cases h2 : l.length = l'.length
    · simp only [lessL, h2, Nat.lt_irrefl, decide_false, decide_true, Bool.true_and, Bool.false_or]
      exact val_same a ha l l' 0 h h' h2
    · have h3 : l'.length < l.length := by omega
      have := val_short a ha l l' 0 h' h3
      simp only [lessL, h1, decide_false, h2, Bool.false_and, Bool.false_or]
      constructor
      · intro h; cases h
      · intro h; rw [numN_val, numN_val] at h; omega

/-- The next word, read from its end: a greatest letter turns into the least one, and is carried. -/
def incR (a : Int) : List UInt8 → List UInt8
  | [] => [lb ((lets a)[0]?.getD 0)]
  | c :: r => if placeN a (ltr c) + 1 = (lets a).length then lb ((lets a)[0]?.getD 0) :: incR a r else lb ((lets a)[placeN a (ltr c) + 1]?.getD 0) :: r
def nextL (a : Int) (l : List UInt8) : List UInt8 := (incR a l.reverse).reverse
theorem incR_num (a : Int) (ha : isA a = true) (h0 : (lets a).length ≠ 0) : ∀ r : List UInt8, r.all (okL a) = true → numN a (incR a r).reverse = numN a r.reverse + 1 ∧ (incR a r).all (okL a) = true ∧ r.length ≤ (incR a r).length ∧ (incR a r).length ≤ r.length + 1 := by
  have hj := place_at a ha 0 (by omega)
  have hl := lets_at_lb a ha 0 (by omega)
  have ho := okL_lb a ha 0 (by omega)
  intro r
  induction r with
  | nil =>
    intro _
    refine ⟨?_, by simpa [incR] using ho, by simp [incR], by simp [incR]⟩
    rw [numN_val, numN_val]
    simp only [incR, List.reverse_cons, List.reverse_nil, List.nil_append, val_cons, val_nil, hl, hj.1]
    omega
  | cons c r ih =>
    intro hall
    simp only [List.all_cons, Bool.and_eq_true] at hall
    have hp := (place_ok a ha c hall.1).1
    by_cases hg : placeN a (ltr c) + 1 = (lets a).length
    · obtain ⟨h1, h2, h3, h4⟩ := ih hall.2
      simp only [incR, if_pos hg, List.reverse_cons, List.all_cons, Bool.and_eq_true, List.length_cons]
      refine ⟨?_, ⟨ho, h2⟩, by omega, by omega⟩
      rw [numN_snoc, numN_snoc, h1, hl, hj.1, Nat.add_mul]
      omega
    · have hj2 := place_at a ha (placeN a (ltr c) + 1) (by omega)
      have hl2 := lets_at_lb a ha (placeN a (ltr c) + 1) (by omega)
      have ho2 := okL_lb a ha (placeN a (ltr c) + 1) (by omega)
      simp only [incR, if_neg hg, List.reverse_cons, List.all_cons, Bool.and_eq_true, List.length_cons]
      refine ⟨?_, ⟨ho2, hall.2⟩, by omega, by omega⟩
      rw [numN_snoc, numN_snoc, hl2, hj2.1]
      omega
theorem nextL_num (a : Int) (ha : isA a = true) (h0 : (lets a).length ≠ 0) (l : List UInt8) (h : l.all (okL a) = true) : numN a (nextL a l) = numN a l + 1 ∧ (nextL a l).all (okL a) = true ∧ l.length ≤ (nextL a l).length ∧ (nextL a l).length ≤ l.length + 1 := by
  have := incR_num a ha h0 l.reverse (by simpa using h)
  rw [List.reverse_reverse] at this
  refine ⟨this.1, ?_, ?_, ?_⟩
  · unfold nextL; rw [List.all_reverse]; exact this.2.1
  · have := this.2.2.1; simpa [nextL] using this
  · have := this.2.2.2; simpa [nextL] using this

/-- The least letter of an alphabet, and the letter behind one. -/
def lst (a : Int) : UInt8 := lb ((lets a)[0]?.getD 0)
def suc (a : Int) (c : UInt8) : UInt8 := lb ((lets a)[placeN a (ltr c) + 1]?.getD 0)
/-- The letter is the greatest one. -/
def isGr (a : Int) (c : UInt8) : Prop := placeN a (ltr c) + 1 = (lets a).length
theorem isGr_iff (a : Int) (ha : isA a = true) (c : UInt8) (h : okL a c = true) : isGr a c ↔ ltr c = (lets a)[(lets a).length - 1]?.getD 0 := by
  have h0 := okL_nonneg h
  obtain ⟨_, h1, h2⟩ := idx_place a (ltr c) ha h0 (ltr_lt c) h
  unfold isGr
  constructor
  · intro hg
    rw [show (lets a).length - 1 = placeN a (ltr c) from by omega, h2]
  · intro hg
    have := (place_at a ha ((lets a).length - 1) (by omega)).1
    rw [← hg] at this
    omega
theorem incR_rep (a : Int) : ∀ (k : Nat) (r : List UInt8), (∀ c ∈ r.take k, isGr a c) → k ≤ r.length → incR a r = List.replicate k (lst a) ++ incR a (r.drop k) := by
  intro k
  induction k with
  | zero => intro r _ _; simp
  | succ k ih =>
    intro r h hk
    match r with
    | [] => simp at hk
    | c :: r =>
      have hc : isGr a c := h c (by simp)
      have := ih r (fun x hx => h x (by simp [hx])) (by simpa using hk)
      unfold isGr at hc
      simp only [incR, if_pos hc, this, List.replicate_succ, List.drop_succ_cons, List.cons_append]
      rfl
/-- Where the turning of a word to the next one stands after k letters from the end. -/
def NState (a : Int) (l : List UInt8) (k : Nat) (xs : List UInt8) : Prop := xs = l.take (l.length - k) ++ List.replicate k (lst a) ∧ ∀ c ∈ l.drop (l.length - k), isGr a c
theorem N_start (a : Int) (l : List UInt8) : NState a l 0 l := by
  refine ⟨by simp, fun c hc => ?_⟩
  rw [Nat.sub_zero, List.drop_length] at hc; cases hc
theorem N_len {a : Int} {l xs : List UInt8} {k : Nat} (h : NState a l k xs) (hk : k ≤ l.length) : xs.length = l.length := by
  rw [h.1, List.length_append, List.length_take, List.length_replicate]; omega
theorem N_take (l : List UInt8) (k i : Nat) (hi : i + k + 1 = l.length) : l.take (l.length - k) = l.take i ++ [l[i]?.getD 0] := by
  rw [show l.length - k = i + 1 from by omega, List.take_succ_eq_append_getElem (by omega), List.getElem?_eq_getElem (by omega)]; rfl
theorem N_at {a : Int} {l xs : List UInt8} {k i : Nat} (h : NState a l k xs) (hi : i + k + 1 = l.length) : xs[i]?.getD 0 = l[i]?.getD 0 := by
  rw [h.1, N_take l k i hi]
  have hl : (l.take i).length = i := by rw [List.length_take]; omega
  rw [List.append_assoc, List.getElem?_append_right (by omega), hl, Nat.sub_self]
  simp
theorem N_set {a : Int} {l xs : List UInt8} {k i : Nat} (h : NState a l k xs) (hi : i + k + 1 = l.length) (d : UInt8) : xs.set i d = l.take i ++ d :: List.replicate k (lst a) := by
  have hl : (l.take i).length = i := by rw [List.length_take]; omega
  rw [h.1, N_take l k i hi, List.append_assoc, List.set_append_right (h := by omega), hl, Nat.sub_self]
  rfl
theorem N_go {a : Int} {l xs : List UInt8} {k i : Nat} (h : NState a l k xs) (hi : i + k + 1 = l.length) (hg : isGr a (l[i]?.getD 0)) : NState a l (k + 1) (xs.set i (lst a)) := by
  refine ⟨?_, fun c hc => ?_⟩
  · rw [N_set h hi, show l.length - (k + 1) = i from by omega, List.replicate_succ]
  · rw [show l.length - (k + 1) = i from by omega, List.drop_eq_getElem_cons (by omega)] at hc
    rcases List.mem_cons.1 hc with rfl | hc
    · rw [List.getElem?_eq_getElem (by omega)] at hg; exact hg
    · exact h.2 c (by rw [show l.length - k = i + 1 from by omega]; exact hc)
theorem N_inc {a : Int} {l xs : List UInt8} {k : Nat} (h : NState a l k xs) (hk : k ≤ l.length) : incR a l.reverse = List.replicate k (lst a) ++ incR a (l.take (l.length - k)).reverse := by
  rw [incR_rep a k l.reverse (fun c hc => ?_) (by simpa using hk)]
  · congr 2
    rw [List.drop_reverse]
  · rw [List.take_reverse] at hc
    exact h.2 c (List.mem_reverse.1 hc)
theorem N_stop {a : Int} {l xs : List UInt8} {k i : Nat} (h : NState a l k xs) (hi : i + k + 1 = l.length) (hg : ¬ isGr a (l[i]?.getD 0)) : nextL a l = xs.set i (suc a (l[i]?.getD 0)) := by
  unfold nextL
  have hrev : (l.take i ++ [l[i]?.getD 0]).reverse = l[i]?.getD 0 :: (l.take i).reverse := by simp
  rw [N_inc h (by omega), N_take l k i hi, N_set h hi, hrev]
  unfold isGr at hg
  simp only [incR]
  rw [if_neg hg]
  simp [suc]
theorem N_end {a : Int} {l xs : List UInt8} (h : NState a l l.length xs) : nextL a l = xs ++ [lst a] := by
  unfold nextL
  rw [N_inc h (Nat.le_refl _), h.1]
  simp only [Nat.sub_self, List.take_zero, List.reverse_nil, incR, List.nil_append, List.reverse_append, List.reverse_cons, List.reverse_replicate]
  rw [← List.replicate_succ', List.replicate_succ]; rfl

theorem N_rot {a : Int} {l xs : List UInt8} (h : NState a l l.length xs) : lst a :: xs = xs ++ [lst a] := by
  rw [h.1]
  simp only [Nat.sub_self, List.take_zero, List.nil_append]
  rw [← List.replicate_succ', List.replicate_succ]
/-- The next word, where there is one. -/
def nextW (a : Int) (l : List UInt8) : Option (List UInt8) := if within l a = true ∧ a ≠ 0 ∧ (nextL a l).length ≤ 50000 then some (nextL a l) else none

end Go.Proofs.Ytagegbhchljggaa
