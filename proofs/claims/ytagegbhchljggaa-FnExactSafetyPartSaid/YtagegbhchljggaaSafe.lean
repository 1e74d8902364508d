/- SafetyPart: what it makes of the rows, and how a store keeps the matrix. -/
import Derived.Test.YtagegbhchljggaaComp
namespace Go.Proofs.Ytagegbhchljggaa
open Go.RowKit
set_option linter.unusedVariables false
set_option linter.unusedSimpArgs false
set_option maxRecDepth 100000

theorem ite_of {a p q : Prop} [Decidable p] [Decidable q] [Decidable a] {x y : Int} (h : a → (p ↔ q)) : (if a ∧ p then x else y) = if a ∧ q then x else y := by
  by_cases ha : a
  · have := h ha
    by_cases hp : p
    · rw [if_pos ⟨ha, hp⟩, if_pos ⟨ha, this.1 hp⟩]
    · rw [if_neg (fun q => hp q.2), if_neg (fun q => hp (this.2 q.2))]
  · rw [if_neg (fun q => ha q.1), if_neg (fun q => ha q.1)]
/-- The rows after i whole rows and k numbers of the next. -/
def safeAt (xss : List (List Int)) (bs : List Bool) (i k : Nat) : List (List Int) :=
  (List.range xss.length).map (fun (j : Nat) => (List.range (xss[j]?.getD []).length).map (fun (y : Nat) => if bs[j]?.getD false = false ∧ (j < i ∨ (j = i ∧ y < k)) then (j : Int) else (xss[j]?.getD [])[y]?.getD 0))
theorem safeAt_len (xss : List (List Int)) (bs : List Bool) (i k : Nat) : (safeAt xss bs i k).length = xss.length := by simp [safeAt]
theorem safeAt_row (xss : List (List Int)) (bs : List Bool) (i k j : Nat) (h : j < xss.length) : (safeAt xss bs i k)[j]?.getD [] = (List.range (xss[j]?.getD []).length).map (fun (y : Nat) => if bs[j]?.getD false = false ∧ (j < i ∨ (j = i ∧ y < k)) then (j : Int) else (xss[j]?.getD [])[y]?.getD 0) := by
  unfold safeAt
  rw [List.getElem?_map, List.getElem?_range h]
  rfl
theorem safeAt_rlen (xss : List (List Int)) (bs : List Bool) (i k j : Nat) : ((safeAt xss bs i k)[j]?.getD []).length = (xss[j]?.getD []).length := by
  by_cases h : j < xss.length
  · rw [safeAt_row _ _ _ _ _ h, List.length_map, List.length_range]
  · rw [List.getElem?_eq_none (by rw [safeAt_len]; omega), List.getElem?_eq_none (by omega)]
theorem safeAt_at (xss : List (List Int)) (bs : List Bool) (i k j y : Nat) (h : j < xss.length) (hy : y < (xss[j]?.getD []).length) : ((safeAt xss bs i k)[j]?.getD [])[y]?.getD 0 = if bs[j]?.getD false = false ∧ (j < i ∨ (j = i ∧ y < k)) then (j : Int) else (xss[j]?.getD [])[y]?.getD 0 := by
  rw [safeAt_row _ _ _ _ _ h, List.getElem?_map, List.getElem?_range hy]
  rfl
theorem safeAt_lens {xss : List (List Int)} {bs : List Bool} {i k m : Nat} (h : ∀ l ∈ xss, l.length ≤ m) : ∀ l ∈ safeAt xss bs i k, l.length ≤ m := by
  intro l hl
  obtain ⟨j, hj, rfl⟩ := List.mem_iff_getElem.1 hl
  have hj' : j < xss.length := by rw [safeAt_len] at hj; exact hj
  have h1 := safeAt_rlen xss bs i k j
  rw [List.getElem?_eq_getElem hj, List.getElem?_eq_getElem hj', Option.getD_some, Option.getD_some] at h1
  rw [h1]
  exact h _ (List.getElem_mem hj')
theorem safeAt_ext {xss yss : List (List Int)} (h : xss.length = yss.length) (hr : ∀ j, j < xss.length → xss[j]?.getD [] = yss[j]?.getD []) : xss = yss := by
  refine List.ext_getElem h fun j h1 h2 => ?_
  have := hr j h1
  rw [List.getElem?_eq_getElem h1, List.getElem?_eq_getElem h2] at this
  exact this
theorem safeAt_ext1 {xs ys : List Int} (h : xs.length = ys.length) (hr : ∀ j, j < xs.length → xs[j]?.getD 0 = ys[j]?.getD 0) : xs = ys := by
  refine List.ext_getElem h fun j h1 h2 => ?_
  have := hr j h1
  rw [List.getElem?_eq_getElem h1, List.getElem?_eq_getElem h2] at this
  exact this
theorem safeAt_zero (xss : List (List Int)) (bs : List Bool) : safeAt xss bs 0 0 = xss := by
  refine safeAt_ext (safeAt_len _ _ _ _) fun j hj => ?_
  rw [safeAt_len] at hj
  refine safeAt_ext1 (safeAt_rlen _ _ _ _ _) fun y hy => ?_
  rw [safeAt_rlen] at hy
  rw [safeAt_at _ _ _ _ _ _ hj hy, if_neg (by omega)]
theorem safeAt_next (xss : List (List Int)) (bs : List Bool) (i k : Nat) (h : (xss[i]?.getD []).length ≤ k ∨ bs[i]?.getD false = true) : safeAt xss bs i k = safeAt xss bs (i + 1) 0 := by
  refine safeAt_ext (by rw [safeAt_len, safeAt_len]) fun j hj => ?_
  rw [safeAt_len] at hj
  refine safeAt_ext1 (by rw [safeAt_rlen, safeAt_rlen]) fun y hy => ?_
  rw [safeAt_rlen] at hy
  rw [safeAt_at _ _ _ _ _ _ hj hy, safeAt_at _ _ _ _ _ _ hj hy]
  by_cases e : j = i
  · subst e
    rcases h with h | h
    · exact ite_of (fun _ => by omega)
    · rw [h]; simp
  · exact ite_of (fun _ => by omega)
theorem safeAt_step_other (xss : List (List Int)) (bs : List Bool) (i k j : Nat) (hj : j < xss.length) (h : j ≠ i) : (safeAt xss bs i k)[j]?.getD [] = (safeAt xss bs i (k + 1))[j]?.getD [] := by
  rw [safeAt_row _ _ _ _ _ hj, safeAt_row _ _ _ _ _ hj]
  refine List.map_congr_left fun y _ => ?_
  exact ite_of (fun _ => by omega)
/-- The row i of a matrix that may be written. -/
theorem WM.row {w : World} {b0 off n cap : Nat} {Bf : Nat → Nat} {xss : List (List Int)} (h : WM w b0 Bf (.slice (some ⟨b0, off, none⟩) n cap) xss) (i : Nat) (hi : i < n) :
    ∃ a c, w.cell? ⟨b0, off + i, none⟩ = some (.slice a (xss[i]?.getD []).length c) ∧ (xss[i]?.getD []).length ≤ c ∧ c ≤ maxLen ∧ ((xss[i]?.getD []).length ≠ 0 → a = some ⟨Bf i, 0, none⟩ ∧ Bf i < w.heap.size ∧ ∀ j, j < (xss[i]?.getD []).length → w.cell? ⟨Bf i, j, none⟩ = some (.int .i64 ((xss[i]?.getD [])[j]?.getD 0)) ∧ w.frozen? ⟨Bf i, j, none⟩ = false) := by
  obtain ⟨ao, cap', he, h1, h2, h3, h4, h5⟩ := h
  injection he with e1 e2 e3
  rcases h3 with h3 | ⟨off', e4, h6, h7⟩
  · omega
  · rw [e4] at e1
    injection e1 with e1
    injection e1 with e5 e6 e7
    obtain ⟨u, hu, a, c, rfl, q1, q2, q3⟩ := h7 i (by omega)
    refine ⟨a, c, by rw [e6]; exact hu, q1, q2, fun h0 => ?_⟩
    rcases q3 with q3 | q3
    · exact absurd q3 h0
    · exact q3
theorem WM.put {w : World} {b0 : Nat} {Bf : Nat → Nat} {v : Value} {xss : List (List Int)} {bs : List Bool} {i k : Nat} (h : WM w b0 Bf v (safeAt xss bs i k)) (hi : i < xss.length) (hk : k < (xss[i]?.getD []).length) (hb : bs[i]?.getD false = false) :
    WM (w.setCell ⟨Bf i, k, none⟩ (.int .i64 i)) b0 Bf v (safeAt xss bs i (k + 1)) := by
  obtain ⟨ao, cap, rfl, h1, h2, h3, h4, h5⟩ := h
  simp only [safeAt_len, safeAt_rlen] at h1 h3 h4 h5 ⊢
  have hne := h5 i hi (by omega)
  have hbut : But (Bf i) w (w.setCell ⟨Bf i, k, none⟩ (.int .i64 i)) := (But.refl _ w).set _ _
  refine ⟨ao, cap, by rw [safeAt_len], by rw [safeAt_len]; exact h1, h2, ?_, by simp only [safeAt_len, safeAt_rlen]; exact h4, by simp only [safeAt_len, safeAt_rlen]; exact h5⟩
  rw [safeAt_len]
  rcases h3 with h3 | ⟨off, rfl, h6, h7⟩
  · exact .inl h3
  · refine .inr ⟨off, rfl, Nat.lt_of_lt_of_le h6 hbut.2.2.2.1, fun j hj => ?_⟩
    obtain ⟨u, hu, hw⟩ := h7 j hj
    refine ⟨u, hbut.cell (fun e => hne e.symm) hu, ?_⟩
    by_cases e : j = i
    · subst e
      obtain ⟨a, c, rfl, q1, q2, q3⟩ := hw
      rw [safeAt_rlen] at q1 q3
      refine ⟨a, c, by rw [safeAt_rlen, safeAt_rlen], by rw [safeAt_rlen]; exact q1, q2, ?_⟩
      rw [safeAt_rlen]
      rcases q3 with q3 | ⟨rfl, q4, q5⟩
      · exact .inl q3
      · refine .inr ⟨rfl, Nat.lt_of_lt_of_le q4 hbut.2.2.2.1, fun y hy => ⟨?_, by rw [frozen_set]; exact (q5 y hy).2⟩⟩
        have hc := (q5 y hy).1
        rw [safeAt_at _ _ _ _ _ _ hj hy] at hc ⊢
        by_cases e : y = k
        · subst e
          rw [cell_set_same _ _ _ _ _ hc, if_pos ⟨hb, by omega⟩]
        · rw [cell_set_other _ _ _ _ _ e, hc]
          exact congrArg (fun z => some (Value.int .i64 z)) (ite_of (fun _ => by omega))
    · rw [← safeAt_step_other xss bs i k j hj e]
      refine hw.of_block hbut.2.2.2.1 fun h0 => ?_
      rw [safeAt_rlen] at h0
      obtain ⟨a, c, rfl, q1, q2, q3⟩ := hw
      rw [safeAt_rlen] at q3
      rcases q3 with q3 | ⟨-, q4, -⟩
      · exact absurd q3 h0
      · exact hbut.2.2.2.2 _ q4 (fun e2 => e (h4 j i hj hi h0 (by omega) e2))
theorem rowsOf_of {Bf : Nat → Nat} {xss : List (List Int)} {i : Nat} (hi : i < xss.length) (h : (xss[i]?.getD []).length ≠ 0) : rowsOf Bf xss (Bf i) := ⟨i, hi, h, rfl⟩
theorem Only.put {S : Nat → Prop} {b : Nat} {w w' : World} (h : Only S w w') (hb : S b) (j : Nat) (v : Value) : Only S w (w'.setCell ⟨b, j, none⟩ v) := by
  obtain ⟨h1, h2, h3, h4, h5⟩ := h
  refine ⟨h1, h2, h3, by simpa using h4, fun k hk hne => ?_⟩
  rw [Below.heap_setCell _ _ _ _ (show k ≠ b from fun e => hne (e ▸ hb))]
  exact h5 k hk hne
end Go.Proofs.Ytagegbhchljggaa
