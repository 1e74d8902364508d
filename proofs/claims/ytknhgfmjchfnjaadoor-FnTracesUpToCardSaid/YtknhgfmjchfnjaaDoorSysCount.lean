/- How many short traces a system has, in plain Lean: the reference's recursion, sums over sets, numbers of words. -/
import Derived.Test.YtknhgfmjchfnjaaDoorSysPlain2
namespace Go.Proofs.YtknhgfmjchfnjaaDoor
open Go.RowKit
set_option linter.unusedVariables false
set_option linter.unusedSimpArgs false

/-- The sum of a function over the letters of a list. -/
def sumL (f : Int → Nat) : List Int → Nat
  | [] => 0
  | x :: r => f x + sumL f r
theorem sumL_snoc (f : Int → Nat) (l : List Int) (x : Int) : sumL f (l ++ [x]) = sumL f l + f x := by
  induction l with
  | nil => simp [sumL]
  | cons a r ih => simp [sumL, ih]; omega
theorem sumL_zero {f : Int → Nat} (h : ∀ x, f x = 0) : ∀ l, sumL f l = 0
  | [] => rfl
  | x :: r => by rw [sumL, h x, sumL_zero h r]
theorem sumL_le {f : Int → Nat} {B : Nat} (h : ∀ x, f x ≤ B) : ∀ l, sumL f l ≤ l.length * B
  | [] => by simp [sumL]
  | x :: r => by
    have h1 := h x
    have h2 := sumL_le h r
    rw [sumL, List.length_cons, Nat.succ_mul]
    omega
theorem sumL_add (f g : Int → Nat) : ∀ l, sumL (fun x => f x + g x) l = sumL f l + sumL g l
  | [] => rfl
  | x :: r => by simp only [sumL]; rw [sumL_add f g r]; omega
/-- The number of words of at most n letters that lead anywhere. -/
def cntS (es : List Edg) (ls : List Int) : Nat → Nat → Nat
  | 0, s => if s = 0 then 0 else 1
  | n + 1, s => if s = 0 then 0 else 1 + sumL (fun x => cntS es ls n (stepN es s x)) ls
theorem cntS_zero (es : List Edg) (ls : List Int) : ∀ n, cntS es ls n 0 = 0
  | 0 => rfl
  | n + 1 => by simp [cntS]
theorem cntS_pos (es : List Edg) (ls : List Int) (n s : Nat) (h : s ≠ 0) : 1 ≤ cntS es ls n s := by
  cases n with
  | zero => simp [cntS, h]
  | succ n => simp [cntS, h]
theorem cntS_succ (es : List Edg) (ls : List Int) (n s : Nat) (h : s ≠ 0) : cntS es ls (n + 1) s = 1 + sumL (fun x => cntS es ls n (stepN es s x)) ls := by simp [cntS, h]
theorem cntS_le (es : List Edg) (ls : List Int) (hl : ls.length ≤ 6) : ∀ n s, cntS es ls n s ≤ 7 ^ n
  | 0, s => by unfold cntS; rw [Nat.pow_zero]; split <;> omega
  | n + 1, s => by
    unfold cntS
    split
    · exact Nat.zero_le _
    · have h1 := sumL_le (f := fun x => cntS es ls n (stepN es s x)) (fun x => cntS_le es ls hl n (stepN es s x)) ls
      have h2 : ls.length * 7 ^ n ≤ 6 * 7 ^ n := Nat.mul_le_mul_right _ hl
      have h3 := Nat.pow_pos (n := n) (show 0 < 7 by decide)
      rw [Nat.pow_succ]
      omega
theorem seven_pow (n : Nat) (h : n ≤ 7) : (7 : Nat) ^ n ≤ 823543 := by
  calc 7 ^ n ≤ 7 ^ 7 := Nat.pow_le_pow_right (by decide) h
    _ = 823543 := by decide
/-- What TracesUpTo answers. -/
def trP (al st : Int) (es : List Edg) (n : Int) : Int := if sysV al st es = true ∧ 0 ≤ n ∧ n ≤ 7 then (cntS es (lets al) n.toNat 1 : Nat) else -1
theorem sumL_mono {f g : Int → Nat} (h : ∀ x, f x ≤ g x) : ∀ l, sumL f l ≤ sumL g l
  | [] => Nat.le_refl _
  | x :: r => by
    have h1 := h x
    have h2 := sumL_mono h r
    unfold sumL
    omega
theorem cntS_mono (es : List Edg) (ls : List Int) : ∀ n s, cntS es ls n s ≤ cntS es ls (n + 1) s
  | 0, s => by
    unfold cntS
    split
    · omega
    · omega
  | n + 1, s => by
    by_cases h : s = 0
    · subst h; rw [cntS_zero, cntS_zero]; omega
    · rw [cntS_succ es ls n s h, cntS_succ es ls (n + 1) s h]
      have := sumL_mono (f := fun x => cntS es ls n (stepN es s x)) (g := fun x => cntS es ls (n + 1) (stepN es s x)) (fun x => cntS_mono es ls n _) ls
      omega
theorem stepN_none (s : Nat) (x : Int) : stepN [] s x = 0 := rfl
theorem cntS_none (ls : List Int) (n s : Nat) (h : s ≠ 0) : cntS [] ls n s = 1 := by
  cases n with
  | zero => simp [cntS, h]
  | succ n =>
    rw [cntS_succ _ _ _ _ h, sumL_zero (fun x => by rw [stepN_none]; exact cntS_zero _ _ _)]
/-- The sum of a function over the numbers under a bound. -/
def sumN (f : Nat → Nat) : Nat → Nat
  | 0 => 0
  | n + 1 => sumN f n + f n
theorem sumN_congr {f g : Nat → Nat} : ∀ n, (∀ k, k < n → f k = g k) → sumN f n = sumN g n
  | 0, _ => rfl
  | n + 1, h => by rw [sumN, sumN, sumN_congr n (fun k hk => h k (by omega)), h n (by omega)]
theorem sumN_zero {f : Nat → Nat} : ∀ n, (∀ k, k < n → f k = 0) → sumN f n = 0
  | 0, _ => rfl
  | n + 1, h => by rw [sumN, sumN_zero n (fun k hk => h k (by omega)), h n (by omega)]
/-- One point changes. -/
theorem sumN_point {f g : Nat → Nat} {q d : Nat} : ∀ n, q < n → (∀ k, k < n → k ≠ q → g k = f k) → g q = f q + d → sumN g n = sumN f n + d
  | 0, h, _, _ => absurd h (Nat.not_lt_zero _)
  | n + 1, h, h1, h2 => by
    by_cases e : q = n
    · subst e
      rw [sumN, sumN, sumN_congr q (fun k hk => h1 k (by omega) (by omega)), h2]
      omega
    · rw [sumN, sumN, sumN_point n (by omega) (fun k hk => h1 k (by omega)) h2, h1 n (by omega) (fun e2 => e e2.symm)]
      omega
theorem sumN_single {f : Nat → Nat} {q : Nat} (n : Nat) (h : q < n) (h1 : ∀ k, k < n → k ≠ q → f k = 0) : sumN f n = f q := by
  have := sumN_point (f := fun _ => 0) (g := f) (q := q) (d := f q) n h (fun k hk hne => h1 k hk hne) (Nat.zero_add _).symm
  rw [this, sumN_zero (f := fun _ => 0) n (fun _ _ => rfl), Nat.zero_add]
/-- The sum over the words, by their numbers, of a function of the states to which they lead. -/
def lvl (k : Nat) : Nat → Nat
  | 0 => 1
  | n + 1 => 1 + k * lvl k n
def spread (es : List Edg) (ls : List Int) (f : Nat → Nat) (s : Nat) : Nat := sumL (fun x => f (stepN es s x)) ls
theorem sumN_add (f g : Nat → Nat) : ∀ n, sumN (fun k => f k + g k) n = sumN f n + sumN g n
  | 0 => rfl
  | n + 1 => by simp only [sumN]; rw [sumN_add f g n]; omega
theorem sumN_split (f : Nat → Nat) (a : Nat) : ∀ b, sumN f (a + b) = sumN f a + sumN (fun k => f (a + k)) b
  | 0 => rfl
  | b + 1 => by rw [← Nat.add_assoc, sumN, sumN_split f a b, sumN]; omega
theorem sumN_rows (f : Nat → Nat) (k : Nat) : ∀ n, sumN f (k * n) = sumN (fun i => sumN (fun j => f (k * i + j)) k) n
  | 0 => rfl
  | n + 1 => by rw [Nat.mul_succ, sumN_split, sumN_rows f k n, sumN]
theorem sumL_range (f : Int → Nat) : ∀ l : List Int, sumL f l = sumN (fun j => f (l[j]?.getD 0)) l.length
  | l => by
    suffices h : ∀ n, n ≤ l.length → sumL f (l.take n) = sumN (fun j => f (l[j]?.getD 0)) n by
      have := h l.length (Nat.le_refl _)
      rwa [List.take_length] at this
    intro n
    induction n with
    | zero => intro _; rfl
    | succ n ih =>
      intro hn
      have e : l.take (n + 1) = l.take n ++ [l[n]?.getD 0] := by
        rw [List.take_add_one, List.getElem?_eq_getElem (by omega : n < l.length)]; rfl
      rw [e, sumL_snoc, ih (by omega), sumN]
/-- A family of sets, by the numbers of words: number 0 stands for the start, number k i + j + 1 for one letter more. -/
def Fam (es : List Edg) (ls : List Int) (w : Nat → Nat) : Prop := w 0 = 1 ∧ ∀ i j, j < ls.length → w (ls.length * i + j + 1) = stepN es (w i) (ls[j]?.getD 0)
theorem fam_sum {es : List Edg} {ls : List Int} {w : Nat → Nat} (h : Fam es ls w) (f : Nat → Nat) (n : Nat) : sumN (fun i => f (w i)) (1 + ls.length * n) = f 1 + sumN (fun i => spread es ls f (w i)) n := by
  rw [sumN_split, sumN_rows]
  have e1 : sumN (fun i => f (w i)) 1 = f 1 := by
    show 0 + f (w 0) = f 1
    rw [h.1, Nat.zero_add]
  rw [e1]
  congr 1
  refine sumN_congr n (fun i _ => ?_)
  unfold spread
  rw [sumL_range]
  refine sumN_congr _ (fun j hj => ?_)
  rw [show 1 + (ls.length * i + j) = ls.length * i + j + 1 by omega, h.2 i j hj]
def upTo (es : List Edg) (ls : List Int) : Nat → (Nat → Nat) → Nat → Nat
  | 0, f, s => f s
  | n + 1, f, s => f s + upTo es ls n (spread es ls f) s
theorem fam_upTo {es : List Edg} {ls : List Int} {w : Nat → Nat} (h : Fam es ls w) : ∀ n f, sumN (fun i => f (w i)) (lvl ls.length n) = upTo es ls n f 1
  | 0, f => by
    show 0 + f (w 0) = f 1
    rw [h.1, Nat.zero_add]
  | n + 1, f => by
    rw [lvl, fam_sum h, upTo, fam_upTo h n (spread es ls f)]
theorem upTo_spread (es : List Edg) (ls : List Int) : ∀ n f s, upTo es ls n (spread es ls f) s = spread es ls (upTo es ls n f) s
  | 0, f, s => rfl
  | n + 1, f, s => by
    have e : spread es ls (upTo es ls (n + 1) f) s = spread es ls f s + spread es ls (upTo es ls n (spread es ls f)) s := by
      unfold spread
      exact sumL_add _ _ _
    rw [e, upTo, upTo_spread es ls n (spread es ls f) s]
theorem upTo_cnt (es : List Edg) (ls : List Int) : ∀ n s, upTo es ls n (fun s => if s = 0 then 0 else 1) s = cntS es ls n s
  | 0, s => rfl
  | n + 1, s => by
    rw [upTo, upTo_spread]
    by_cases h : s = 0
    · subst h
      rw [cntS_zero]
      have : spread es ls (upTo es ls n (fun s => if s = 0 then 0 else 1)) 0 = 0 := sumL_zero (fun x => by rw [stepN_zero, upTo_cnt es ls n 0, cntS_zero]) ls
      rw [this]; rfl
    · rw [cntS_succ _ _ _ _ h, if_neg h]
      congr 1
      unfold spread
      congr 1
      funext x
      exact upTo_cnt es ls n _
/-- Traces are counted: the words with small numbers. -/
theorem fam_count {es : List Edg} {ls : List Int} {w : Nat → Nat} (h : Fam es ls w) (n : Nat) : sumN (fun i => if w i = 0 then 0 else 1) (lvl ls.length n) = cntS es ls n 1 := by
  rw [← upTo_cnt, ← fam_upTo h n (fun s => if s = 0 then 0 else 1)]
end Go.Proofs.YtknhgfmjchfnjaaDoor
