/- The map of counts of TracesUpTo: what it holds number by number, and the sum that stays. -/
import Derived.Test.YtknhgfmjchfnjaaDoorSysCount
import Derived.Maps.RangeWalk
import Derived.Maps.OwnOps
import Derived.Maps.Views
namespace Go.Proofs.YtknhgfmjchfnjaaDoor
open Go.RowKit
set_option linter.unusedVariables false
set_option linter.unusedSimpArgs false

abbrev Dat := DataW Unit
/-- The map holds F k at k, and 0 < k < 65536 and 1 ≤ F k where it holds anything. -/
def Holds (D : Dat) (F : Nat → Nat) : Prop :=
  Maps.IsMap D ∧ (∀ k : Nat, k < 65536 → D.atKey (.int .i64 k) (.lit (.int .i64 0)) = .lit (.int .i64 (F k))) ∧ ∀ x : Int, Maps.has D (.int .i64 x) = true → ∃ k : Nat, x = k ∧ 0 < k ∧ k < 65536 ∧ 1 ≤ F k
def wsum (F g : Nat → Nat) : Nat := sumN (fun k => F k * g k) 65536
def wlef (F g : Nat → Nat) (left : Lit → Bool) : Nat := sumN (fun k => if left (.int .i64 k) = true then F k * g k else 0) 65536
def bump (F : Nat → Nat) (q c : Nat) (k : Nat) : Nat := if k = q then F q + c else F k
theorem wsum_bump (F g : Nat → Nat) (q c : Nat) (hq : q < 65536) : wsum (bump F q c) g = wsum F g + c * g q := by
  unfold wsum
  refine sumN_point (q := q) 65536 hq (fun k _ hk => by unfold bump; rw [if_neg hk]) ?_
  unfold bump
  rw [if_pos rfl, Nat.add_mul]
theorem lit_ne {a b : Int} (h : a ≠ b) : (Lit.int .i64 a) ≠ (Lit.int .i64 b) := fun e => h (by injection e)
theorem isKey (a : Int) : WideAt.IsKeyLit (.int .i64 a) := trivial
theorem wlef_step (F g : Nat → Nat) (left : Lit → Bool) (q : Nat) (hq : q < 65536) (hl : left (.int .i64 q) = true) : wlef F g left = wlef F g (fun z => left z && !z.sameKey (.int .i64 q)) + F q * g q := by
  unfold wlef
  refine sumN_point (q := q) 65536 hq (fun k _ hk => ?_) ?_
  · have h1 := Maps.sameKey_ne (lit_ne (show (k : Int) ≠ (q : Int) by omega))
    simp [h1]
  · have h1 := WideAt.sameKey_self (isKey (q : Int))
    simp [h1, hl]
theorem wlef_done (F g : Nat → Nat) (left : Lit → Bool) (h : ∀ z, left z = false) : wlef F g left = 0 :=
  sumN_zero _ (fun k _ => by rw [h]; simp)
theorem holds_zero {D : Dat} {F : Nat → Nat} (h : Holds D F) (k : Nat) (hk : k < 65536) (h0 : Maps.has D (.int .i64 k) = false) : F k = 0 := by
  have h1 := h.2.1 k hk
  rw [Maps.atKey_of_not_has h0] at h1
  injection h1 with h1
  injection h1 with h1 h2
  omega
theorem wlef_start {D : Dat} {F : Nat → Nat} (h : Holds D F) (g : Nat → Nat) : wlef F g (Maps.has D) = wsum F g := by
  unfold wlef wsum
  refine sumN_congr _ (fun k hk => ?_)
  split
  · rfl
  · rename_i hn
    rw [holds_zero h k hk (by simpa using hn), Nat.zero_mul]
theorem holds_empty : Holds (.map []) (fun _ => 0) := by
  refine ⟨Maps.isMap_empty, fun k _ => rfl, fun x h => ?_⟩
  simp [Maps.has] at h
theorem holds_put {D : Dat} {F : Nat → Nat} (h : Holds D F) (q c : Nat) (hq0 : 0 < q) (hq : q < 65536) (hc : 1 ≤ c) : Holds (D.put (.int .i64 q) (.lit (.int .i64 ((F q + c : Nat) : Int)))) (bump F q c) := by
  refine ⟨h.1.put _ _, fun k hk => ?_, fun x hx => ?_⟩
  · by_cases e : k = q
    · subst e
      rw [Maps.atKey_put_same h.1 (isKey _)]
      unfold bump
      rw [if_pos rfl]
    · rw [Maps.atKey_put_other (lit_ne (by omega)), h.2.1 k hk]
      unfold bump
      rw [if_neg e]
  · by_cases e : x = q
    · subst e
      refine ⟨q, rfl, hq0, hq, ?_⟩
      unfold bump
      rw [if_pos rfl]
      omega
    · rw [Maps.has_put_other (lit_ne e)] at hx
      obtain ⟨k, rfl, h1, h2, h3⟩ := h.2.2 x hx
      refine ⟨k, rfl, h1, h2, ?_⟩
      unfold bump
      rw [if_neg (by omega)]
      exact h3
theorem holds_one : Holds ((DataW.map [] : Dat).put (.int .i64 1) (.lit (.int .i64 1))) (bump (fun _ => 0) 1 1) := holds_put holds_empty 1 1 (by decide) (by decide) (by decide)
/-- The weights: how many more words a set gives. -/
def gW (es : List Edg) (ls : List Int) (m : Nat) (s : Nat) : Nat := cntS es ls m s - 1
theorem gW_zero (es : List Edg) (ls : List Int) (s : Nat) : gW es ls 0 s = 0 := by
  unfold gW cntS
  split <;> omega
theorem gW_succ (es : List Edg) (ls : List Int) (m s : Nat) (h : s ≠ 0) : gW es ls (m + 1) s = sumL (fun x => cntS es ls m (stepN es s x)) ls := by
  unfold gW
  rw [cntS_succ es ls m s h]
  omega
theorem gW_pos (es : List Edg) (ls : List Int) (m s c : Nat) (h : s ≠ 0) : c * cntS es ls m s = c + c * gW es ls m s := by
  unfold gW
  have := cntS_pos es ls m s h
  obtain ⟨y, hy⟩ : ∃ y, cntS es ls m s = y + 1 := ⟨cntS es ls m s - 1, by omega⟩
  rw [hy, Nat.add_sub_cancel, Nat.mul_succ]
  omega
theorem wsum_zero (F : Nat → Nat) (es : List Edg) (ls : List Int) : wsum F (gW es ls 0) = 0 :=
  sumN_zero _ (fun k _ => by rw [gW_zero, Nat.mul_zero])
theorem wsum_none (g : Nat → Nat) : wsum (fun _ => 0) g = 0 := sumN_zero _ (fun k _ => by rw [Nat.zero_mul])
theorem wsum_one (g : Nat → Nat) : wsum (bump (fun _ => 0) 1 1) g = g 1 := by
  rw [wsum_bump _ _ _ _ (by decide), wsum_none]
  omega
/-- The sum that stays, at the start. -/
theorem keep_start (es : List Edg) (ls : List Int) (n : Nat) : 1 + wsum (bump (fun _ => 0) 1 1) (gW es ls n) = cntS es ls n 1 := by
  rw [wsum_one]
  unfold gW
  have := cntS_pos es ls n 1 (by decide)
  omega
end Go.Proofs.YtknhgfmjchfnjaaDoor
