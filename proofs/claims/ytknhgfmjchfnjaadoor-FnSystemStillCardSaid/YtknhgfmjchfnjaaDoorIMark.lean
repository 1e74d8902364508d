/- Marking and looking for the marks: rows of numbers that may be written. -/
import Derived.Test.YtknhgfmjchfnjaaDoorView
import Derived.Deep.OwnRows
namespace Go.Proofs.YtknhgfmjchfnjaaDoor
open Go.RowKit
set_option linter.unusedVariables false
set_option linter.unusedSimpArgs false
set_option maxRecDepth 1048576

/-- A row that may be written: its cells lie in the block b from the first on. -/
def WI (w : World) (b : Nat) (v : Value) (xs : List Int) : Prop :=
  ∃ ao cap, v = .slice ao xs.length cap ∧ xs.length ≤ cap ∧ cap ≤ maxLen ∧ (xs.length = 0 ∨ (ao = some ⟨b, 0, none⟩ ∧ b < w.heap.size ∧ ∀ j, j < xs.length → w.cell? ⟨b, j, none⟩ = some (.int .i64 (xs[j]?.getD 0)) ∧ w.frozen? ⟨b, j, none⟩ = false))
theorem WI.view {w : World} {b : Nat} {v : Value} {xs : List Int} (h : WI w b v xs) : IV w v xs := by
  obtain ⟨ao, cap, rfl, h1, h2, h3⟩ := h
  refine ⟨ao, cap, rfl, h1, h2, ?_⟩
  rcases h3 with h3 | ⟨rfl, h4, h5⟩
  · exact .inl h3
  · exact .inr ⟨b, 0, rfl, h4, fun i hi => ⟨_, by rw [Nat.zero_add]; exact (h5 i hi).1, rfl⟩⟩
/-- Only blocks of the set S are written, none is new. -/
def Only (S : Nat → Prop) (w w' : World) : Prop := w'.os = w.os ∧ w'.tape = w.tape ∧ w'.output = w.output ∧ w.heap.size ≤ w'.heap.size ∧ ∀ k, k < w.heap.size → ¬ S k → w'.heap[k]? = w.heap[k]?
theorem Only.refl (S : Nat → Prop) (w : World) : Only S w w := ⟨rfl, rfl, rfl, Nat.le_refl _, fun _ _ _ => rfl⟩
theorem Only.trans {S : Nat → Prop} {a b c : World} (h : Only S a b) (k : Only S b c) : Only S a c := by
  obtain ⟨h1, h2, h3, h4, h5⟩ := h
  obtain ⟨k1, k2, k3, k4, k5⟩ := k
  exact ⟨k1.trans h1, k2.trans h2, k3.trans h3, Nat.le_trans h4 k4, fun j hj hs => (k5 j (by omega) hs).trans (h5 j hj hs)⟩
theorem Only.mono {S S' : Nat → Prop} {a b : World} (h : Only S a b) (hs : ∀ k, S k → S' k) : Only S' a b := ⟨h.1, h.2.1, h.2.2.1, h.2.2.2.1, fun k hk hn => h.2.2.2.2 k hk (fun hx => hn (hs k hx))⟩
theorem Only.below {S : Nat → Prop} {B : Nat} {w0 w w' : World} (h : Only S w w') (hb : Below B w0 w) (hS : ∀ k, S k → B ≤ k) (hB : B ≤ w.heap.size) : Below B w0 w' := by
  obtain ⟨h1, h2, h3, h4, h5⟩ := h
  refine ⟨h1.trans hb.os, h2.trans hb.tape, h3.trans hb.output, Nat.le_trans hb.size h4, fun k hk => ?_⟩
  rw [← hb.block k hk]
  exact h5 k (by omega) (fun hs => by have := hS k hs; omega)
theorem Only.of_below {w w' : World} (S : Nat → Prop) (h : Below w.heap.size w w') : Only S w w' := ⟨h.os, h.tape, h.output, h.size, fun k hk _ => h.block k hk⟩
theorem WI.only {S : Nat → Prop} {w w' : World} {b : Nat} {v : Value} {xs : List Int} (h : WI w b v xs) (ho : Only S w w') (hb : xs.length ≠ 0 → ¬ S b) : WI w' b v xs := by
  obtain ⟨ao, cap, rfl, h1, h2, h3⟩ := h
  refine ⟨ao, cap, rfl, h1, h2, ?_⟩
  by_cases h0 : xs.length = 0
  · exact .inl h0
  · rcases h3 with h3 | ⟨rfl, h4, h5⟩
    · exact .inl h3
    · have hk := ho.2.2.2.2 b h4 (hb h0)
      refine .inr ⟨rfl, Nat.lt_of_lt_of_le h4 ho.2.2.2.1, fun j hj => ?_⟩
      rw [World.cell?_of_block (w := w) (w' := w') (a := ⟨b, j, none⟩) hk, World.frozen?_of_block (w := w) (w' := w') (a := ⟨b, j, none⟩) hk]
      exact h5 j hj
theorem Only.set {n b : Nat} {w w' : World} (h : Only (fun q => n ≠ 0 ∧ q = b) w w') (hn : n ≠ 0) (j : Nat) (v : Value) : Only (fun q => n ≠ 0 ∧ q = b) w (w'.setCell ⟨b, j, none⟩ v) := by
  obtain ⟨h1, h2, h3, h4, h5⟩ := h
  refine ⟨h1, h2, h3, by simpa using h4, fun k hk hne => ?_⟩
  rw [Below.heap_setCell _ _ _ _ (show k ≠ b from fun e => hne ⟨hn, e⟩)]
  exact h5 k hk hne
theorem WI.of_block {w w' : World} {b : Nat} {v : Value} {xs : List Int} (h : WI w b v xs) (hs : w.heap.size ≤ w'.heap.size) (hk : xs.length ≠ 0 → w'.heap[b]? = w.heap[b]?) : WI w' b v xs := by
  obtain ⟨ao, cap, rfl, h1, h2, h3⟩ := h
  refine ⟨ao, cap, rfl, h1, h2, ?_⟩
  by_cases h0 : xs.length = 0
  · exact .inl h0
  · rcases h3 with h3 | ⟨rfl, h4, h5⟩
    · exact .inl h3
    · refine .inr ⟨rfl, Nat.lt_of_lt_of_le h4 hs, fun j hj => ?_⟩
      rw [World.cell?_of_block (w := w) (w' := w') (a := ⟨b, j, none⟩) (hk h0), World.frozen?_of_block (w := w) (w' := w') (a := ⟨b, j, none⟩) (hk h0)]
      exact h5 j hj
theorem WI.shape {w : World} {b : Nat} {v : Value} {xs : List Int} (h : WI w b v xs) : ∃ a n c, v = .slice a n c ∧ n = xs.length := by
  obtain ⟨ao, cap, rfl, -⟩ := h
  exact ⟨ao, _, cap, rfl, rfl⟩
/-- The marks of a row. -/
def seqI (k : Int) (n : Nat) : List Int := (List.range n).map (fun (j : Nat) => k + (j : Int))
theorem seqI_len (k : Int) (n : Nat) : (seqI k n).length = n := by simp [seqI]
theorem seqI_at (k : Int) (n j : Nat) (h : j < n) : (seqI k n)[j]?.getD 0 = k + (j : Int) := by simp [seqI, h]
theorem frozen_set (w : World) (a b : Addr) (v : Value) : (w.setCell a v).frozen? b = w.frozen? b := by
  unfold World.frozen? World.setCell
  simp only [Array.getElem?_modify]
  by_cases h : a.block = b.block
  · rw [if_pos h]
    cases hb : w.heap[b.block]? with
    | none => simp
    | some o => cases o <;> simp
  · rw [if_neg h]
theorem cell_set_same (w : World) (b j : Nat) (v u : Value) (h : w.cell? ⟨b, j, none⟩ = some u) : (w.setCell ⟨b, j, none⟩ v).cell? ⟨b, j, none⟩ = some v := by
  unfold World.cell? World.setCell at *
  simp only [Array.getElem?_modify, if_true]
  cases hb : w.heap[b]? with
  | none => rw [hb] at h; cases h
  | some o =>
    rw [hb] at h
    cases o with
    | cells c e f =>
      simp at h ⊢
      obtain ⟨hj, -⟩ := Array.getElem?_eq_some_iff.1 h
      simp [hj]
    | _ => simp at h
theorem cell_set_other (w : World) (b j i : Nat) (v : Value) (hne : i ≠ j) : (w.setCell ⟨b, j, none⟩ v).cell? ⟨b, i, none⟩ = w.cell? ⟨b, i, none⟩ := by
  unfold World.cell? World.setCell
  simp only [Array.getElem?_modify, if_true]
  cases hb : w.heap[b]? with
  | none => simp
  | some o =>
    cases o with
    | cells c e f => simp [Array.getElem?_setIfInBounds, hne.symm, fun h => hne h]
    | _ => simp

theorem WI.below {w w' : World} {b : Nat} {v : Value} {xs : List Int} (h : WI w b v xs) (hb : Below w.heap.size w w') : WI w' b v xs := by
  obtain ⟨ao, cap, rfl, h1, h2, h3⟩ := h
  rcases h3 with h3 | ⟨rfl, h4, h5⟩
  · exact ⟨ao, cap, rfl, h1, h2, .inl h3⟩
  · refine ⟨_, cap, rfl, h1, h2, .inr ⟨rfl, Nat.lt_of_lt_of_le h4 hb.size, fun j hj => ?_⟩⟩
    rw [World.cell?_of_block (w := w) (w' := w') (a := ⟨b, j, none⟩) (hb.block b h4), World.frozen?_of_block (w := w) (w' := w') (a := ⟨b, j, none⟩) (hb.block b h4)]
    exact h5 j hj
theorem IRow.wi {B : Nat} {w : World} {v : Value} {xs : List Int} (h : IRow B w v xs) : ∃ b, (xs.length ≠ 0 → B ≤ b ∧ b < w.heap.size) ∧ WI w b v xs := by
  rcases h.shape with ⟨rfl, rfl⟩ | ⟨g, cap, rfl, hB, hg, hc, hm, hcell, hfz⟩
  · exact ⟨0, fun h => absurd rfl h, none, 0, rfl, Nat.le_refl _, by decide, .inl rfl⟩
  · exact ⟨g, fun _ => ⟨hB, hg⟩, _, cap, rfl, hc, hm, .inr ⟨rfl, hg, fun j hj => ⟨hcell j hj, hfz j⟩⟩⟩
theorem rowIs.wi {w : World} {b n : Nat} {xs : List Int} (h : w.rowIs b 3 n (fun j => .int .i64 (xs[j]?.getD 0))) (hn : n = xs.length) (hm : n ≤ 1048576) : WI w b (.slice (some ⟨b, 0, none⟩) n n) xs := by
  subst hn
  exact ⟨_, _, rfl, Nat.le_refl _, by unfold maxLen; omega, .inr ⟨rfl, World.rowIs.lt h, fun j hj => ⟨World.rowIs.cell h hj, World.rowIs.frozen h j⟩⟩⟩
/-- The cells of such a row. -/
theorem WI.at {w : World} {b n cap : Nat} {a : Option Addr} {xs : List Int} (h : WI w b (.slice a n cap) xs) : n = xs.length ∧ n ≤ cap ∧ cap ≤ 9223372036854775807 ∧ (n = 0 ∨ (a = some ⟨b, 0, none⟩ ∧ b < w.heap.size ∧ ∀ j, j < n → w.cell? ⟨b, j, none⟩ = some (.int .i64 (xs[j]?.getD 0)))) := by
  obtain ⟨ao, cap', he, h1, h2, h3⟩ := h
  injection he with e1 e2 e3
  subst e1; subst e2; subst e3
  refine ⟨rfl, h1, h2, ?_⟩
  rcases h3 with h3 | ⟨rfl, h4, h5⟩
  · exact .inl h3
  · exact .inr ⟨rfl, h4, fun j hj => (h5 j hj).1⟩
end Go.Proofs.YtknhgfmjchfnjaaDoor
