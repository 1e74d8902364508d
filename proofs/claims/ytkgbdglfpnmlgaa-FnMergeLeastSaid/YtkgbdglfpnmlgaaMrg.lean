/- The plain mathematics of merging two words: no program in sight. -/
import Derived.Test.YtkgbdglfpnmlgaaOrder
namespace Go.Proofs.Ytkgbdglfpnmlgaa
set_option linter.unusedVariables false
set_option linter.unusedSimpArgs false

/-- One step of a merging: the letter, and what is left of both words. -/
def mstep (a b : Int) : List UInt8 → List UInt8 → UInt8 × List UInt8 × List UInt8
  | [], [] => (0, [], [])
  | c :: v, [] => (c, v, [])
  | [], d :: w => (d, [], w)
  | c :: v, d :: w => if okL b c = false ∧ (okL a d = true ∨ c < d) then (c, v, d :: w) else if okL a d = false then (d, c :: v, w) else (c, v, w)
def mrg (a b : Int) : Nat → List UInt8 → List UInt8 → List UInt8
  | 0, _, _ => []
  | n + 1, v, w => if v = [] ∧ w = [] then [] else (mstep a b v w).1 :: mrg a b n (mstep a b v w).2.1 (mstep a b v w).2.2
def mrgL (a b : Int) (v w : List UInt8) : List UInt8 := mrg a b (v.length + w.length) v w
/-- The words agree on their common letters. -/
def agree (a b : Int) (v w : List UInt8) : Prop := restrL b v = restrL a w

theorem restrL_nil (a : Int) : restrL a [] = [] := rfl
theorem restrL_cons_yes {a : Int} {c : UInt8} {l : List UInt8} (h : okL a c = true) : restrL a (c :: l) = c :: restrL a l := by simp [restrL, h]
theorem restrL_cons_no {a : Int} {c : UInt8} {l : List UInt8} (h : okL a c = false) : restrL a (c :: l) = restrL a l := by simp [restrL, h]

/-- What a step does, where the words agree. -/
inductive MCase (a b : Int) : List UInt8 → List UInt8 → Prop
  | left (c : UInt8) (v w : List UInt8) : okL b c = false → (∀ d ∈ w.head?, okL a d = true ∨ c < d) → agree a b v w → mstep a b (c :: v) w = (c, v, w) → MCase a b (c :: v) w
  | right (d : UInt8) (v w : List UInt8) : okL a d = false → (∀ c ∈ v.head?, okL b c = true ∨ ¬ c < d) → agree a b v w → mstep a b v (d :: w) = (d, v, w) → MCase a b v (d :: w)
  | both (c : UInt8) (v w : List UInt8) : okL a c = true → okL b c = true → agree a b v w → mstep a b (c :: v) (c :: w) = (c, v, w) → MCase a b (c :: v) (c :: w)

theorem mcase (a b : Int) (v w : List UInt8) (hv : v.all (okL a) = true) (hw : w.all (okL b) = true) (h : agree a b v w) (hne : ¬ (v = [] ∧ w = [])) : MCase a b v w := by
  unfold agree at h
  match v, w with
  | [], [] => exact absurd ⟨rfl, rfl⟩ hne
  | c :: v, [] =>
    cases hb : okL b c with
    | true => rw [restrL_cons_yes hb] at h; cases h
    | false => exact .left c v [] hb (by simp) (by rw [restrL_cons_no hb] at h; exact h) rfl
  | [], d :: w =>
    cases ha : okL a d with
    | true => rw [restrL_cons_yes ha] at h; cases h
    | false => exact .right d [] w ha (by simp) (by rw [restrL_cons_no ha] at h; exact h) rfl
  | c :: v, d :: w =>
    cases hb : okL b c with
    | false =>
      by_cases hc : okL a d = true ∨ c < d
      · exact .left c v (d :: w) hb (by intro x hx; simp at hx; subst hx; exact hc) (by rw [restrL_cons_no hb] at h; exact h) (by simp only [mstep]; rw [if_pos ⟨hb, hc⟩])
      · have hd : okL a d = false := by cases hd : okL a d with | false => rfl | true => exact absurd (.inl hd) hc
        exact .right d (c :: v) w hd (by intro x hx; simp at hx; subst hx; exact .inr (fun h => hc (.inr h))) (by rw [restrL_cons_no hd] at h; exact h) (by simp only [mstep]; rw [if_neg (fun h => hc h.2), if_pos hd])
    | true =>
      have hn : ¬ (okL b c = false ∧ (okL a d = true ∨ c < d)) := by rw [hb]; intro h; cases h.1
      cases hd : okL a d with
      | false => exact .right d (c :: v) w hd (by intro x hx; simp at hx; subst hx; exact .inl hb) (by rw [restrL_cons_no hd] at h; exact h) (by simp only [mstep]; rw [if_neg hn, if_pos hd])
      | true =>
        rw [restrL_cons_yes hb, restrL_cons_yes hd] at h
        have hcd : c = d := (List.cons.inj h).1
        subst hcd
        exact .both c v w hd hb (List.cons.inj h).2 (by simp only [mstep]; rw [if_neg hn, if_neg (by rw [hd]; simp)])

theorem mrg_enough (a b : Int) : ∀ (n m : Nat) (v w : List UInt8), v.all (okL a) = true → w.all (okL b) = true → agree a b v w → v.length + w.length ≤ n → v.length + w.length ≤ m → mrg a b n v w = mrg a b m v w := by
  intro n
  induction n with
  | zero =>
    intro m v w _ _ _ hn _
    have h1 : v = [] := List.eq_nil_of_length_eq_zero (by omega)
    have h2 : w = [] := List.eq_nil_of_length_eq_zero (by omega)
    subst h1; subst h2
    cases m <;> simp [mrg]
  | succ n ih =>
    intro m v w hv hw h hn hm
    by_cases hne : v = [] ∧ w = []
    · obtain ⟨rfl, rfl⟩ := hne
      cases m <;> simp [mrg]
    · have hlen : v.length + w.length ≠ 0 := by
        intro h0; exact hne ⟨List.eq_nil_of_length_eq_zero (by omega), List.eq_nil_of_length_eq_zero (by omega)⟩
      obtain ⟨m, rfl⟩ : ∃ k, m = k + 1 := ⟨m - 1, by omega⟩
      rw [mrg, mrg, if_neg hne, if_neg hne]
      cases mcase a b v w hv hw h hne with
      | left c v w hb hlt hag hst =>
        simp only [List.all_cons, Bool.and_eq_true, List.length_cons] at hv hn hm
        rw [hst]; exact congrArg _ (ih m v w hv.2 hw hag (by omega) (by omega))
      | right d v w hb hlt hag hst =>
        simp only [List.all_cons, Bool.and_eq_true, List.length_cons] at hw hn hm
        rw [hst]; exact congrArg _ (ih m v w hv hw.2 hag (by omega) (by omega))
      | both c v w ha hb hag hst =>
        simp only [List.all_cons, Bool.and_eq_true, List.length_cons] at hv hw hn hm
        rw [hst]; exact congrArg _ (ih m v w hv.2 hw.2 hag (by omega) (by omega))

theorem mrgL_nil (a b : Int) : mrgL a b [] [] = [] := rfl
/-- The recursion of the merged word. -/
theorem mrgL_step (a b : Int) (v w : List UInt8) (hv : v.all (okL a) = true) (hw : w.all (okL b) = true) (h : agree a b v w) (hne : ¬ (v = [] ∧ w = [])) :
    mrgL a b v w = (mstep a b v w).1 :: mrgL a b (mstep a b v w).2.1 (mstep a b v w).2.2 := by
  have hlen : v.length + w.length ≠ 0 := by
    intro h0; exact hne ⟨List.eq_nil_of_length_eq_zero (by omega), List.eq_nil_of_length_eq_zero (by omega)⟩
  unfold mrgL
  obtain ⟨n, hn⟩ : ∃ k, v.length + w.length = k + 1 := ⟨v.length + w.length - 1, by omega⟩
  rw [hn, mrg, if_neg hne]
  cases mcase a b v w hv hw h hne with
  | left c v w hb hlt hag hst =>
    simp only [List.all_cons, Bool.and_eq_true, List.length_cons] at hv hn
    rw [hst]; exact congrArg _ (mrg_enough a b _ _ v w hv.2 hw hag (by omega) (by simp))
  | right d v w hb hlt hag hst =>
    simp only [List.all_cons, Bool.and_eq_true, List.length_cons] at hw hn
    rw [hst]; exact congrArg _ (mrg_enough a b _ _ v w hv hw.2 hag (by omega) (by simp))
  | both c v w ha hb hag hst =>
    simp only [List.all_cons, Bool.and_eq_true, List.length_cons] at hv hw hn
    rw [hst]; exact congrArg _ (mrg_enough a b _ _ v w hv.2 hw.2 hag (by omega) (by simp))

/-- Induction over a merging. -/
theorem mrg_ind (a b : Int) (P : List UInt8 → List UInt8 → List UInt8 → Prop) (h0 : P [] [] [])
    (hl : ∀ c v w m, okL a c = true → okL b c = false → (∀ d ∈ w.head?, okL a d = true ∨ c < d) → v.all (okL a) = true → w.all (okL b) = true → agree a b v w → P v w m → P (c :: v) w (c :: m))
    (hr : ∀ d v w m, okL b d = true → okL a d = false → (∀ c ∈ v.head?, okL b c = true ∨ ¬ c < d) → v.all (okL a) = true → w.all (okL b) = true → agree a b v w → P v w m → P v (d :: w) (d :: m))
    (hb : ∀ c v w m, okL a c = true → okL b c = true → v.all (okL a) = true → w.all (okL b) = true → agree a b v w → P v w m → P (c :: v) (c :: w) (c :: m)) :
    ∀ (n : Nat) (v w : List UInt8), v.length + w.length ≤ n → v.all (okL a) = true → w.all (okL b) = true → agree a b v w → P v w (mrgL a b v w) := by
  intro n
  induction n with
  | zero =>
    intro v w hn _ _ _
    have h1 : v = [] := List.eq_nil_of_length_eq_zero (by omega)
    have h2 : w = [] := List.eq_nil_of_length_eq_zero (by omega)
    subst h1; subst h2; exact h0
  | succ n ih =>
    intro v w hn hv hw h
    by_cases hne : v = [] ∧ w = []
    · obtain ⟨rfl, rfl⟩ := hne; exact h0
    · rw [mrgL_step a b v w hv hw h hne]
      cases mcase a b v w hv hw h hne with
      | left c v w hbc hlt hag hst =>
        simp only [List.all_cons, Bool.and_eq_true, List.length_cons] at hv hn
        rw [hst]; exact hl c v w _ hv.1 hbc hlt hv.2 hw hag (ih v w (by omega) hv.2 hw hag)
      | right d v w hbc hlt hag hst =>
        simp only [List.all_cons, Bool.and_eq_true, List.length_cons] at hw hn
        rw [hst]; exact hr d v w _ hw.1 hbc hlt hv hw.2 hag (ih v w (by omega) hv hw.2 hag)
      | both c v w ha hbc hag hst =>
        simp only [List.all_cons, Bool.and_eq_true, List.length_cons] at hv hw hn
        rw [hst]; exact hb c v w _ hv.1 hw.1 hv.2 hw.2 hag (ih v w (by omega) hv.2 hw.2 hag)

theorem mrg_facts (a b : Int) (v w : List UInt8) (hv : v.all (okL a) = true) (hw : w.all (okL b) = true) (h : agree a b v w) :
    restrL a (mrgL a b v w) = v ∧ restrL b (mrgL a b v w) = w ∧ (mrgL a b v w).length + (restrL b v).length = v.length + w.length ∧ (∀ c ∈ mrgL a b v w, okL a c = true ∨ okL b c = true) := by
  refine mrg_ind a b (fun v w m => restrL a m = v ∧ restrL b m = w ∧ m.length + (restrL b v).length = v.length + w.length ∧ (∀ c ∈ m, okL a c = true ∨ okL b c = true)) ?_ ?_ ?_ ?_ (v.length + w.length) v w (Nat.le_refl _) hv hw h
  · simp [restrL]
  · rintro c v w m ha hb - - - - ⟨h1, h2, h3, h4⟩
    rw [restrL_cons_yes ha, restrL_cons_no hb, restrL_cons_no hb, h1, h2]
    refine ⟨rfl, rfl, by simp; omega, fun x hx => ?_⟩
    rcases List.mem_cons.1 hx with rfl | hx
    · exact .inl ha
    · exact h4 x hx
  · rintro d v w m hb ha - - - - ⟨h1, h2, h3, h4⟩
    rw [restrL_cons_no ha, restrL_cons_yes hb, h1, h2]
    refine ⟨rfl, rfl, by simp; omega, fun x hx => ?_⟩
    rcases List.mem_cons.1 hx with rfl | hx
    · exact .inr hb
    · exact h4 x hx
  · rintro c v w m ha hb - - - ⟨h1, h2, h3, h4⟩
    rw [restrL_cons_yes ha, restrL_cons_yes hb, restrL_cons_yes hb, h1, h2]
    refine ⟨rfl, rfl, by simp; omega, fun x hx => ?_⟩
    rcases List.mem_cons.1 hx with rfl | hx
    · exact .inl ha
    · exact h4 x hx

theorem mrg_none (a b : Int) (v : List UInt8) (hv : v.all (okL a) = true) (h : restrL b v = []) : mrgL a b v [] = v := by
  have := (mrg_facts a b v [] hv rfl h).1
  have h2 := (mrg_facts a b v [] hv rfl h).2.1
  have h4 := (mrg_facts a b v [] hv rfl h).2.2.2
  have : restrL a (mrgL a b v []) = mrgL a b v [] := by
    unfold restrL
    apply List.filter_eq_self.2
    intro c hc
    rcases h4 c hc with h | h
    · exact h
    · exfalso
      have : c ∈ restrL b (mrgL a b v []) := by unfold restrL; exact List.mem_filter.2 ⟨hc, h⟩
      rw [h2] at this; cases this
  rw [← this]; assumption

theorem agree_symm {a b : Int} {v w : List UInt8} (h : agree a b v w) : agree b a w v := Eq.symm h

theorem mrg_turned (a b : Int) (v w : List UInt8) (hv : v.all (okL a) = true) (hw : w.all (okL b) = true) (h : agree a b v w) : mrgL b a w v = mrgL a b v w := by
  refine mrg_ind a b (fun v w m => mrgL b a w v = m) rfl ?_ ?_ ?_ (v.length + w.length) v w (Nat.le_refl _) hv hw h
  · intro c v w m ha hb hlt hv hw hag ih
    have hv2 : (c :: v).all (okL a) = true := by simp [ha, hv]
    rw [mrgL_step b a w (c :: v) hw hv2 (by unfold agree; rw [restrL_cons_no hb]; exact hag.symm) (by simp), ← ih]
    have hst : mstep b a w (c :: v) = (c, w, v) := by
      match w with
      | [] => rfl
      | d :: w =>
        simp only [mstep]
        have hd := hlt d (by simp)
        have hn : ¬ (okL a d = false ∧ (okL b c = true ∨ d < c)) := by
          rintro ⟨h1, h2⟩
          rcases hd with hd | hd
          · rw [hd] at h1; cases h1
          · rcases h2 with h2 | h2
            · rw [hb] at h2; cases h2
            · rw [UInt8.lt_iff_toNat_lt] at h2 hd; omega
        rw [if_neg hn, if_pos hb]
    rw [hst]
  · intro d v w m hb ha hlt hv hw hag ih
    have hw2 : (d :: w).all (okL b) = true := by simp [hb, hw]
    rw [mrgL_step b a (d :: w) v hw2 hv (by unfold agree; rw [restrL_cons_no ha]; exact hag.symm) (by simp), ← ih]
    have hst : mstep b a (d :: w) v = (d, w, v) := by
      match v with
      | [] => rfl
      | c :: v =>
        simp only [mstep]
        have hc := hlt c (by simp)
        have hca : okL a c = true := by simp only [List.all_cons, Bool.and_eq_true] at hv; exact hv.1
        have hp : okL a d = false ∧ (okL b c = true ∨ d < c) := by
          refine ⟨ha, ?_⟩
          rcases hc with hc | hc
          · exact .inl hc
          · right
            have hne : c ≠ d := by intro e; subst e; rw [hca] at ha; cases ha
            have : c.toNat ≠ d.toNat := fun e => hne (UInt8.toNat_inj.1 e)
            rw [UInt8.lt_iff_toNat_lt] at hc ⊢; omega
        rw [if_pos hp]
    rw [hst]
  · intro c v w m ha hb hv hw hag ih
    have hv2 : (c :: v).all (okL a) = true := by simp [ha, hv]
    have hw2 : (c :: w).all (okL b) = true := by simp [hb, hw]
    rw [mrgL_step b a (c :: w) (c :: v) hw2 hv2 (by unfold agree; rw [restrL_cons_yes ha, restrL_cons_yes hb]; exact congrArg _ hag.symm) (by simp), ← ih]
    have hst : mstep b a (c :: w) (c :: v) = (c, w, v) := by
      simp only [mstep]
      rw [if_neg (by rw [ha]; simp), if_neg (by rw [hb]; simp)]
    rw [hst]

/-- The merged word is the first one: no word with these restrictions is before it. -/
theorem mrg_least (a b : Int) : ∀ x : List UInt8, (∀ c ∈ x, okL a c = true ∨ okL b c = true) → Op.bytesLess x (mrgL a b (restrL a x) (restrL b x)) = false := by
  have hag : ∀ x : List UInt8, agree a b (restrL a x) (restrL b x) := by
    intro x; unfold agree restrL; rw [List.filter_filter, List.filter_filter]; congr 1; funext c; rw [Bool.and_comm]
  have hall : ∀ (e : Int) (x : List UInt8), (restrL e x).all (okL e) = true := by
    intro e x; rw [List.all_eq_true]; intro c hc; exact (List.mem_filter.1 hc).2
  have hhead : ∀ (m x : List UInt8) (c e : UInt8), c < e → Op.bytesLess (e :: x) (c :: m) = false := by
    intro m x c e h
    have h1 : ¬ e < c := by rw [UInt8.lt_iff_toNat_lt] at h ⊢; omega
    have h2 : (e == c) = false := by
      rw [beq_eq_false_iff_ne]; intro h2; subst h2; exact h1 h
    simp [Op.bytesLess, h1, h2]
  have hsame : ∀ (m x : List UInt8) (c : UInt8), Op.bytesLess (c :: x) (c :: m) = Op.bytesLess x m := by
    intro m x c; simp [Op.bytesLess]
  intro x
  induction x with
  | nil => intro _; simp [restrL, mrgL_nil, Op.bytesLess]
  | cons e x ih =>
    intro hx
    have hxx := ih (fun c hc => hx c (List.mem_cons_of_mem _ hc))
    have hne : ¬ (restrL a (e :: x) = [] ∧ restrL b (e :: x) = []) := by
      rintro ⟨h1, h2⟩
      rcases hx e (by simp) with h | h
      · rw [restrL_cons_yes h] at h1; cases h1
      · rw [restrL_cons_yes h] at h2; cases h2
    rw [mrgL_step a b _ _ (hall a _) (hall b _) (hag _) hne]
    cases ha : okL a e with
    | true =>
      rw [restrL_cons_yes ha]
      cases hb : okL b e with
      | true =>
        rw [restrL_cons_yes hb]
        simp only [mstep]
        rw [if_neg (by rw [hb]; simp), if_neg (by rw [ha]; simp), hsame]
        exact hxx
      | false =>
        rw [restrL_cons_no hb]
        generalize hv : restrL b x = w at *
        match w with
        | [] => simp only [mstep]; rw [hsame]; exact hxx
        | d :: w =>
          simp only [mstep]
          by_cases hc : okL a d = true ∨ e < d
          · rw [if_pos ⟨hb, hc⟩, hsame]; exact hxx
          · have hd : okL a d = false := by cases hd : okL a d with | false => rfl | true => exact absurd (.inl hd) hc
            rw [if_neg (fun h => hc h.2), if_pos hd]
            have hne : e ≠ d := by intro h; subst h; rw [ha] at hd; cases hd
            have h2 : e.toNat ≠ d.toNat := fun h => hne (UInt8.toNat_inj.1 h)
            exact hhead _ _ d e (by have h3 : ¬ e < d := fun h => hc (.inr h); rw [UInt8.lt_iff_toNat_lt] at h3 ⊢; omega)
    | false =>
      have hb : okL b e = true := by
        rcases hx e (by simp) with h | h
        · rw [ha] at h; cases h
        · exact h
      rw [restrL_cons_no ha, restrL_cons_yes hb]
      generalize hv : restrL a x = v at *
      match v with
      | [] => simp only [mstep]; rw [hsame]; exact hxx
      | c :: v =>
        simp only [mstep]
        by_cases hc : okL b c = false ∧ (okL a e = true ∨ c < e)
        · rw [if_pos hc]
          exact hhead _ _ _ _ (by rcases hc.2 with h | h; · rw [ha] at h; cases h
                                  · exact h)
        · rw [if_neg hc, if_pos ha, hsame]; exact hxx

theorem drop_cons (s : ByteArray) (i : Nat) (h : i < s.size) : s.data.toList.drop i = s[i] :: s.data.toList.drop (i + 1) :=
  List.drop_eq_getElem_cons (by rw [data_len]; exact h)
theorem drop_end (s : ByteArray) (i : Nat) (h : ¬ i < s.size) : s.data.toList.drop i = [] := List.drop_eq_nil_of_le (by rw [data_len]; omega)
theorem all_drop {l : List UInt8} {p : UInt8 → Bool} (h : l.all p = true) (i : Nat) : (l.drop i).all p = true := by
  rw [List.all_eq_true] at *; exact fun c hc => h c (List.mem_of_mem_drop hc)

/-- One round of the merging, by places. -/
inductive MRound (a b : Int) (s t : ByteArray) (i k : Nat) : Prop
  | left (h : i < s.size) : okL b s[i] = false → (∀ h2 : k < t.size, okL a t[k] = true ∨ s[i] < t[k]) → agree a b (s.data.toList.drop (i + 1)) (t.data.toList.drop k) →
      mrgL a b (s.data.toList.drop i) (t.data.toList.drop k) = s[i] :: mrgL a b (s.data.toList.drop (i + 1)) (t.data.toList.drop k) → MRound a b s t i k
  | right (h : k < t.size) : okL a t[k] = false → (∀ h2 : i < s.size, okL b s[i] = true ∨ ¬ s[i] < t[k]) → agree a b (s.data.toList.drop i) (t.data.toList.drop (k + 1)) →
      mrgL a b (s.data.toList.drop i) (t.data.toList.drop k) = t[k] :: mrgL a b (s.data.toList.drop i) (t.data.toList.drop (k + 1)) → MRound a b s t i k
  | both (h : i < s.size) (h2 : k < t.size) : s[i] = t[k] → okL a t[k] = true → okL b s[i] = true → agree a b (s.data.toList.drop (i + 1)) (t.data.toList.drop (k + 1)) →
      mrgL a b (s.data.toList.drop i) (t.data.toList.drop k) = s[i] :: mrgL a b (s.data.toList.drop (i + 1)) (t.data.toList.drop (k + 1)) → MRound a b s t i k

theorem mround (a b : Int) (s t : ByteArray) (i k : Nat) (hs : s.data.toList.all (okL a) = true) (ht : t.data.toList.all (okL b) = true) (h : agree a b (s.data.toList.drop i) (t.data.toList.drop k)) (hne : i < s.size ∨ k < t.size) : MRound a b s t i k := by
  have hv := all_drop hs i
  have hw := all_drop ht k
  have hn : ¬ (s.data.toList.drop i = [] ∧ t.data.toList.drop k = []) := by
    rintro ⟨h1, h2⟩
    rcases hne with h3 | h3
    · rw [drop_cons s i h3] at h1; cases h1
    · rw [drop_cons t k h3] at h2; cases h2
  have hstep := mrgL_step a b _ _ hv hw h hn
  have hm := mcase a b _ _ hv hw h hn
  generalize hV : s.data.toList.drop i = V at *
  generalize hW : t.data.toList.drop k = W at *
  have hsi : ∀ (c : UInt8) (v : List UInt8), V = c :: v → ∃ h : i < s.size, s[i] = c ∧ s.data.toList.drop (i + 1) = v := by
    intro c v e
    by_cases h3 : i < s.size
    · rw [drop_cons s i h3] at hV
      have he := hV.trans e
      injection he with h4 h5
      exact ⟨h3, h4, h5⟩
    · rw [drop_end s i h3] at hV; rw [← hV] at e; cases e
  have htk : ∀ (c : UInt8) (v : List UInt8), W = c :: v → ∃ h : k < t.size, t[k] = c ∧ t.data.toList.drop (k + 1) = v := by
    intro c v e
    by_cases h3 : k < t.size
    · rw [drop_cons t k h3] at hW
      have he := hW.trans e
      injection he with h4 h5
      exact ⟨h3, h4, h5⟩
    · rw [drop_end t k h3] at hW; rw [← hW] at e; cases e
  cases hm with
  | left c v w hbc hlt hag hst =>
    obtain ⟨h3, h4, h5⟩ := hsi c v rfl
    rw [hst] at hstep
    refine .left h3 (by rw [h4]; exact hbc) (fun h6 => ?_) (by rw [h5, hW]; exact hag) (by rw [hV, hW, h4, h5]; exact hstep)
    rw [drop_cons t k h6] at hW
    rw [h4]
    exact hlt t[k] (by rw [← hW]; simp)
  | right d v w hbc hlt hag hst =>
    obtain ⟨h3, h4, h5⟩ := htk d w rfl
    rw [hst] at hstep
    refine .right h3 (by rw [h4]; exact hbc) (fun h6 => ?_) (by rw [h5, hV]; exact hag) (by rw [hV, hW, h4, h5]; exact hstep)
    rw [drop_cons s i h6] at hV
    rw [h4]
    exact hlt s[i] (by rw [← hV]; simp)
  | both c v w ha hbc hag hst =>
    obtain ⟨h3, h4, h5⟩ := hsi c v rfl
    obtain ⟨h6, h7, h8⟩ := htk c w rfl
    rw [hst] at hstep
    exact .both h3 h6 (by rw [h4, h7]) (by rw [h7]; exact ha) (by rw [h4]; exact hbc) (by rw [h5, h8]; exact hag) (by rw [hV, hW, h4, h5, h8]; exact hstep)

/-- The merged word, where there is one. -/
def mergeW (a b : Int) (v w : List UInt8) : Option (List UInt8) := if within v a = true ∧ within w b = true ∧ restrL b v = restrL a w ∧ (mrgL a b v w).length ≤ 50000 then some (mrgL a b v w) else none

/-- The letter that the reference's merging takes, or -1. -/
def sm1 (b : Int) : List UInt8 → List UInt8 → Int
  | [], _ => -1
  | c :: _, w => if okL b c = false ∨ w.head? = some c then ltr c else -1
def smerge (a b : Int) (v : List UInt8) : List UInt8 → Int
  | [] => sm1 b v []
  | d :: w => if okL a d = false ∧ (sm1 b v (d :: w) < 0 ∨ ltr d < sm1 b v (d :: w)) then ltr d else sm1 b v (d :: w)
/-- What the reference's step does. -/
inductive SCase (a b : Int) : List UInt8 → List UInt8 → Prop
  | none (v w : List UInt8) : smerge a b v w = -1 → ¬ agree a b v w → SCase a b v w
  | left (c : UInt8) (v w : List UInt8) : smerge a b (c :: v) w = ltr c → okL b c = false → (agree a b (c :: v) w ↔ agree a b v w) → (agree a b (c :: v) w → mrgL a b (c :: v) w = c :: mrgL a b v w) → SCase a b (c :: v) w
  | right (d : UInt8) (v w : List UInt8) : smerge a b v (d :: w) = ltr d → okL a d = false → (agree a b v (d :: w) ↔ agree a b v w) → (agree a b v (d :: w) → mrgL a b v (d :: w) = d :: mrgL a b v w) → SCase a b v (d :: w)
  | both (c : UInt8) (v w : List UInt8) : smerge a b (c :: v) (c :: w) = ltr c → okL a c = true → okL b c = true → (agree a b (c :: v) (c :: w) ↔ agree a b v w) → (agree a b (c :: v) (c :: w) → mrgL a b (c :: v) (c :: w) = c :: mrgL a b v w) → SCase a b (c :: v) (c :: w)

theorem agree_left {a b : Int} {c : UInt8} {v w : List UInt8} (h : okL b c = false) : agree a b (c :: v) w ↔ agree a b v w := by unfold agree; rw [restrL_cons_no h]
theorem agree_right {a b : Int} {d : UInt8} {v w : List UInt8} (h : okL a d = false) : agree a b v (d :: w) ↔ agree a b v w := by unfold agree; rw [restrL_cons_no h]
theorem agree_both {a b : Int} {c : UInt8} {v w : List UInt8} (h : okL a c = true) (h2 : okL b c = true) : agree a b (c :: v) (c :: w) ↔ agree a b v w := by
  unfold agree; rw [restrL_cons_yes h, restrL_cons_yes h2]; simp

theorem scase (a b : Int) (v w : List UInt8) (hv : v.all (okL a) = true) (hw : w.all (okL b) = true) (hne : ¬ (v = [] ∧ w = [])) : SCase a b v w := by
  have hstep := fun h => mrgL_step a b v w hv hw h hne
  match v, w with
  | [], [] => exact absurd ⟨rfl, rfl⟩ hne
  | c :: v, [] =>
    cases hb : okL b c with
    | false => exact .left c v [] (by simp [smerge, sm1, hb]) hb (agree_left hb) (fun h => hstep h)
    | true => exact .none _ _ (by simp [smerge, sm1, hb]) (by unfold agree; rw [restrL_cons_yes hb]; simp [restrL])
  | [], d :: w =>
    cases ha : okL a d with
    | false => exact .right d [] w (by simp [smerge, sm1, ha]) ha (agree_right ha) (fun h => hstep h)
    | true => exact .none _ _ (by simp [smerge, sm1, ha]) (by unfold agree; rw [restrL_cons_yes ha]; simp [restrL])
  | c :: v, d :: w =>
    simp only [List.all_cons, Bool.and_eq_true] at hv hw
    have hc0 := okL_nonneg hv.1
    have hd0 := okL_nonneg hw.1
    cases hb : okL b c with
    | false =>
      cases ha : okL a d with
      | true =>
        refine .left c v (d :: w) (by simp [smerge, sm1, hb, ha]) hb (agree_left hb) (fun h => ?_)
        have := hstep h
        simp only [mstep] at this
        rw [if_pos ⟨hb, .inl ha⟩] at this; exact this
      | false =>
        have hne : c ≠ d := by intro e; subst e; rw [hv.1] at ha; cases ha
        have hne2 : ltr c ≠ ltr d := fun e => hne (ltr_inj c d hc0 hd0 e)
        by_cases hlt : ltr d < ltr c
        · refine .right d (c :: v) w ?_ ha (agree_right ha) (fun h => ?_)
          · have : sm1 b (c :: v) (d :: w) = ltr c := by simp [sm1, hb]
            simp only [smerge, this]; rw [if_pos ⟨ha, .inr hlt⟩]
          · have h2 := hstep h
            have h3 : ¬ (c < d) := by rw [ltr_lt_iff c d hc0 hd0]; omega
            simp only [mstep] at h2
            rw [if_neg (by rw [ha]; simp [h3]), if_pos ha] at h2; exact h2
        · refine .left c v (d :: w) ?_ hb (agree_left hb) (fun h => ?_)
          · have : sm1 b (c :: v) (d :: w) = ltr c := by simp [sm1, hb]
            simp only [smerge, this]; rw [if_neg (by rintro ⟨_, h | h⟩ <;> omega)]
          · have h2 := hstep h
            have h3 : c < d := by rw [ltr_lt_iff c d hc0 hd0]; omega
            simp only [mstep] at h2
            rw [if_pos ⟨hb, .inr h3⟩] at h2; exact h2
    | true =>
      cases ha : okL a d with
      | false =>
        have hne : d ≠ c := by intro e; subst e; rw [hv.1] at ha; cases ha
        refine .right d (c :: v) w ?_ ha (agree_right ha) (fun h => ?_)
        · have : sm1 b (c :: v) (d :: w) = -1 := by simp [sm1, hb, hne]
          simp only [smerge, this]; rw [if_pos ⟨ha, .inl (by omega)⟩]
        · have h2 := hstep h
          simp only [mstep] at h2
          rw [if_neg (by rw [hb]; simp), if_pos ha] at h2; exact h2
      | true =>
        by_cases he : d = c
        · subst he
          refine .both d v w ?_ ha hb (agree_both ha hb) (fun h => ?_)
          · have : sm1 b (d :: v) (d :: w) = ltr d := by simp [sm1]
            simp only [smerge, this]; rw [if_neg (by rw [ha]; simp)]
          · have h2 := hstep h
            simp only [mstep] at h2
            rw [if_neg (by rw [hb]; simp), if_neg (by rw [ha]; simp)] at h2; exact h2
        · refine .none _ _ ?_ ?_
          · have : sm1 b (c :: v) (d :: w) = -1 := by simp [sm1, hb, he]
            simp only [smerge, this]; rw [if_neg (by rw [ha]; simp)]
          · unfold agree; rw [restrL_cons_yes hb, restrL_cons_yes ha]; intro e; injection e with h1 _; exact he h1.symm

/-- What comes of the reference's loop where the letters 'out' are there and v, w are left. -/
def comb (a b : Int) (out v w : List UInt8) : Option (List UInt8) := if restrL b v = restrL a w ∧ (out ++ mrgL a b v w).length ≤ 50000 then some (out ++ mrgL a b v w) else none
theorem comb_end (a b : Int) (out : List UInt8) (h : out.length ≤ 50000) : comb a b out [] [] = some out := by simp [comb, mrgL_nil, restrL, h]
theorem comb_no {a b : Int} {out v w : List UInt8} (h : ¬ agree a b v w) : comb a b out v w = none := by unfold comb; rw [if_neg (fun hh => h hh.1)]
theorem comb_step {a b : Int} {out v w v' w' : List UInt8} {c : UInt8} (h : agree a b v w ↔ agree a b v' w') (h2 : agree a b v w → mrgL a b v w = c :: mrgL a b v' w') : comb a b out v w = comb a b (out ++ [c]) v' w' := by
  unfold comb
  by_cases ha : agree a b v w
  · have ha' := h.1 ha
    rw [h2 ha]
    unfold agree at ha ha'
    rw [ha, ha']
    simp [List.append_assoc]
  · have ha' : ¬ agree a b v' w' := fun h3 => ha (h.2 h3)
    unfold agree at ha ha'
    rw [if_neg (fun hh => ha hh.1), if_neg (fun hh => ha' hh.1)]
theorem comb_full {a b : Int} {out v w v' w' : List UInt8} {c : UInt8} (ho : out.length = 50000) (h2 : agree a b v w → mrgL a b v w = c :: mrgL a b v' w') : comb a b out v w = none := by
  unfold comb
  rw [if_neg]
  rintro ⟨h3, h4⟩
  rw [h2 h3] at h4
  simp at h4; omega
theorem merge_comb (a b : Int) (v w : List UInt8) (hv : within v a = true) (hw : within w b = true) : mergeW a b v w = comb a b [] v w := by
  simp [mergeW, comb, hv, hw]

end Go.Proofs.Ytkgbdglfpnmlgaa
