/- Writing one block alone. -/
import Derived.Test.YtagegbhchljggaaExact
namespace Go.Proofs.Ytagegbhchljggaa
open Go.RowKit
set_option linter.unusedVariables false
set_option linter.unusedSimpArgs false

/-- Only the block b is written; blocks may be new. -/
def But (b : Nat) (w w' : World) : Prop := w'.os = w.os ∧ w'.tape = w.tape ∧ w'.output = w.output ∧ w.heap.size ≤ w'.heap.size ∧ ∀ k, k < w.heap.size → k ≠ b → w'.heap[k]? = w.heap[k]?
theorem But.refl (b : Nat) (w : World) : But b w w := ⟨rfl, rfl, rfl, Nat.le_refl _, fun _ _ _ => rfl⟩
theorem But.set {b : Nat} {w w' : World} (h : But b w w') (j : Nat) (v : Value) : But b w (w'.setCell ⟨b, j, none⟩ v) := by
  obtain ⟨h1, h2, h3, h4, h5⟩ := h
  refine ⟨h1, h2, h3, by simpa using h4, fun k hk hne => ?_⟩
  rw [Below.heap_setCell _ _ _ _ hne]
  exact h5 k hk hne
theorem But.drew {b : Nat} {w w' : World} (h : But b w w') : But b w w'.drew := h
theorem But.drewN {b : Nat} {w w' : World} (h : But b w w') (n : Nat) : But b w (w'.drewN n) := h
theorem But.below {b B : Nat} {w0 w w' : World} (h : But b w w') (hb : Below B w0 w) (hB : B ≤ b) (hs : B ≤ w.heap.size) : Below B w0 w' := by
  obtain ⟨h1, h2, h3, h4, h5⟩ := h
  refine ⟨h1.trans hb.os, h2.trans hb.tape, h3.trans hb.output, Nat.le_trans hb.size h4, fun k hk => ?_⟩
  rw [← hb.block k hk]
  exact h5 k (by omega) (by omega)
theorem But.cell {b : Nat} {w w' : World} (h : But b w w') {g j : Nat} {v : Value} (hg : g ≠ b) (hc : w.cell? ⟨g, j, none⟩ = some v) : w'.cell? ⟨g, j, none⟩ = some v := by
  have hlt := (cell_spot hc).2
  unfold World.cell? at hc ⊢
  rw [h.2.2.2.2 g hlt hg]
  exact hc

end Go.Proofs.Ytagegbhchljggaa
