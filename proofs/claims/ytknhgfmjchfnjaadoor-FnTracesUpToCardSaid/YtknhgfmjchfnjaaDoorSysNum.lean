/- Words by their numbers, and the sets of states to which they lead, in plain Lean. -/
import Derived.Test.YtknhgfmjchfnjaaDoorSysCount
import Derived.Test.YtknhgfmjchfnjaaDoorOrder
namespace Go.Proofs.YtknhgfmjchfnjaaDoor
open Go.RowKit
set_option linter.unusedVariables false
set_option linter.unusedSimpArgs false

theorem lvl_step (k n : Nat) : lvl k n ≤ lvl k (n + 1) := by
  induction n with
  | zero => show 1 ≤ 1 + k * 1; omega
  | succ n ih =>
    show 1 + k * lvl k n ≤ 1 + k * lvl k (n + 1)
    have := Nat.mul_le_mul_left k ih
    omega
theorem lvl_mono (k n : Nat) : ∀ d, lvl k n ≤ lvl k (n + d)
  | 0 => Nat.le_refl _
  | d + 1 => Nat.le_trans (lvl_mono k n d) (lvl_step k (n + d))
theorem num_lvl (a : Int) (ha : isA a = true) : ∀ l : List UInt8, l.all (okL a) = true → numN a l.reverse < lvl (lets a).length l.length
  | [], _ => by show 0 < 1; decide
  | c :: r, h => by
    simp only [List.all_cons, Bool.and_eq_true] at h
    have ih := num_lvl a ha r h.2
    have hp := (place_ok a ha c h.1).1
    rw [List.reverse_cons, numN_snoc]
    show numN a r.reverse * (lets a).length + placeN a (ltr c) + 1 < 1 + (lets a).length * lvl (lets a).length r.length
    have h2 : (numN a r.reverse + 1) * (lets a).length ≤ lvl (lets a).length r.length * (lets a).length := Nat.mul_le_mul_right _ ih
    rw [Nat.add_mul, Nat.one_mul] at h2
    rw [Nat.mul_comm (lets a).length]
    omega
/-- Whoever has a number beyond the words of n letters is longer. -/
theorem num_long (a : Int) (ha : isA a = true) (l : List UInt8) (h : l.all (okL a) = true) (n : Nat) (hn : lvl (lets a).length n ≤ numN a l) : n < l.length := by
  refine Classical.byContradiction fun hc => ?_
  have h1 := num_lvl a ha l.reverse (by simpa using h)
  rw [List.reverse_reverse, List.length_reverse] at h1
  have h2 := lvl_mono (lets a).length l.length (n - l.length)
  rw [show l.length + (n - l.length) = n by omega] at h2
  omega
theorem wat_some (xs : List Int) : ∀ (f m : Nat) (out : List UInt8), m < lvl xs.length f → ∃ l, wat xs f m out = some l ∧ l.length ≤ f + out.length
  | f, 0, out, _ => ⟨out, wat_zero _ _ _, by omega⟩
  | 0, m + 1, out, h => by
    have : m + 1 < 1 := h
    omega
  | f + 1, m + 1, out, h => by
    have h' : m + 1 < 1 + xs.length * lvl xs.length f := h
    have hk : xs.length ≠ 0 := by
      intro h0
      rw [h0, Nat.zero_mul] at h'
      omega
    have hd : m / xs.length < lvl xs.length f := Nat.div_lt_of_lt_mul (by omega)
    obtain ⟨l, h1, h2⟩ := wat_some xs f (m / xs.length) (lb (xs[m % xs.length]?.getD 0) :: out) hd
    refine ⟨l, ?_, by simp at h2; omega⟩
    simp [wat, hk, h1]
theorem wat_more (xs : List Int) : ∀ (f m : Nat) (out l : List UInt8), wat xs f m out = some l → ∀ d, wat xs (f + d) m out = some l
  | f, 0, out, l, h, d => by rw [wat_zero] at h ⊢; exact h
  | 0, m + 1, out, l, h, d => by simp [wat] at h
  | f + 1, m + 1, out, l, h, d => by
    rw [Nat.add_right_comm]
    by_cases hk : xs.length = 0
    · simp [wat, hk] at h
    · simp only [wat, hk, if_false] at h ⊢
      exact wat_more xs f _ _ _ h d
/-- The words of at most n letters have the numbers under the level. -/
theorem wordAt_low (a : Int) (ha : isA a = true) (n m : Nat) (hn : n ≤ 7) (h : m < lvl (lets a).length n) : ∃ l, wordAt (m : Int) a = some l ∧ l.length ≤ n ∧ l.all (okL a) = true ∧ numN a l = m := by
  obtain ⟨l, h1, h2⟩ := wat_some (lets a) n m [] h
  have h3 := wat_more (lets a) n m [] l h1 (7 - n)
  rw [show n + (7 - n) = 7 by omega] at h3
  have h4 : wordAt (m : Int) a = some l := by simp [wordAt, ha, h3]
  obtain ⟨-, -, h5, -, h6⟩ := wordAt_some h4
  exact ⟨l, h4, by simpa using h2, h5, by omega⟩
/-- The set to which the word of a number leads. -/
def famW (es : List Edg) (ls : List Int) : Nat → Nat → Nat
  | _, 0 => 1
  | 0, _ + 1 => 0
  | f + 1, p + 1 => stepN es (famW es ls f (p / ls.length)) (ls[p % ls.length]?.getD 0)
theorem famW_fuel (es : List Edg) (ls : List Int) : ∀ (m f : Nat), m ≤ f → famW es ls f m = famW es ls m m := by
  intro m
  induction m using Nat.strongRecOn with
  | _ m ih =>
    intro f hf
    cases m with
    | zero => cases f <;> rfl
    | succ p =>
      obtain ⟨g, rfl⟩ : ∃ g, f = g + 1 := ⟨f - 1, by omega⟩
      have hd : p / ls.length ≤ p := Nat.div_le_self _ _
      rw [famW, famW, ih (p / ls.length) (by omega) g (by omega), ih (p / ls.length) (by omega) p hd]
def setW (es : List Edg) (ls : List Int) (m : Nat) : Nat := famW es ls m m
theorem setW_zero (es : List Edg) (ls : List Int) : setW es ls 0 = 1 := rfl
theorem setW_step (es : List Edg) (ls : List Int) (i j : Nat) (hj : j < ls.length) : setW es ls (ls.length * i + j + 1) = stepN es (setW es ls i) (ls[j]?.getD 0) := by
  have hk : 0 < ls.length := by omega
  have e1 : (ls.length * i + j) / ls.length = i := by rw [Nat.mul_add_div hk, Nat.div_eq_of_lt hj]; omega
  have e2 : (ls.length * i + j) % ls.length = j := by rw [Nat.mul_add_mod, Nat.mod_eq_of_lt hj]
  have hle : i ≤ ls.length * i + j := by
    have := Nat.mul_le_mul_right i hk
    omega
  show famW es ls (ls.length * i + j + 1) (ls.length * i + j + 1) = _
  rw [famW, e1, e2, famW_fuel es ls i _ hle]
  rfl
theorem setW_fam (es : List Edg) (ls : List Int) : Fam es ls (setW es ls) := ⟨rfl, fun i j hj => setW_step es ls i j hj⟩
theorem setW_run (es : List Edg) (a : Int) (ha : isA a = true) : ∀ l : List UInt8, l.all (okL a) = true → runN es l.reverse = setW es (lets a) (numN a l.reverse)
  | [], _ => rfl
  | c :: r, h => by
    simp only [List.all_cons, Bool.and_eq_true] at h
    have ih := setW_run es a ha r h.2
    have hp := place_ok a ha c h.1
    have hl := lets_at_lb a ha _ hp.1
    rw [hp.2] at hl
    rw [List.reverse_cons, numN_snoc, runN_snoc, ih, Nat.mul_comm, setW_step es (lets a) _ _ hp.1, ← hl]
theorem setW_word (es : List Edg) (a : Int) (ha : isA a = true) (l : List UInt8) (h : l.all (okL a) = true) : runN es l = setW es (lets a) (numN a l) := by
  have := setW_run es a ha l.reverse (by simpa using h)
  rwa [List.reverse_reverse] at this
theorem lvl_300 (k n : Nat) (hk : k ≤ 6) (hn : n ≤ 3) : lvl k n ≤ 259 := by
  have h : ∀ k : Fin 7, ∀ n : Fin 4, lvl k.val n.val ≤ 259 := by decide
  exact h ⟨k, by omega⟩ ⟨n, by omega⟩
end Go.Proofs.YtknhgfmjchfnjaaDoor
