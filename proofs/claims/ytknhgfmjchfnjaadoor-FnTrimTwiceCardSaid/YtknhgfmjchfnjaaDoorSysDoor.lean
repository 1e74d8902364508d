/- The two tables of math/bits, as the rows list them: what the condition gives the walks, and the start that meets it. -/
import Derived.Test.YtknhgfmjchfnjaaDoorSysMoves
import Derived.Test.YtknhgfmjchfnjaaDoorTie
import Derived.Lib.LaidTab
import Derived.ProofKit
import Derived.LaidMore
namespace Go.Proofs.YtknhgfmjchfnjaaDoor
open Go.RowKit
set_option linter.unusedVariables false
set_option linter.unusedSimpArgs false
set_option maxRecDepth 100000

def laidTwo : List (String × DataW Unit) := [("math/bits.deBruijn32tab", Rows.laid_math_bits_deBruijn32tab), ("math/bits.deBruijn64tab", Rows.laid_math_bits_deBruijn64tab)]
theorem door_met (os : Os) (args : Array Value) : laidMetH Tryd.prog laidTwo ((World.doorLaid Tryd.prog 19 os).forCall (fun _ _ => 0) ⟨#[], args, []⟩).memory :=
  laidMetH_of_parts3 (fuel := 8) (laidMet_of_run' 8 (by kernel_rfl) (by kernel_rfl)) (by kernel_rfl) (by kernel_rfl)
theorem tab_data : (Rows.laid_math_bits_deBruijn64tab : DataW Unit) = Lib.tabData .u8 (Lib.deBruijn64tab.map Int.ofNat) := by rfl
theorem g64 : Tryd.prog.globalNamed "math/bits.deBruijn64tab" = some 1 := by kernel_rfl
theorem g64t : (Tryd.prog.globals[1]?).map (·.type) = some 101 := by kernel_rfl
theorem tab_of_laid {W : World} (h : laidMetH Tryd.prog laidTwo W) : Tab W := by
  rw [MakeChecks.laidMetH_plain _ _ _ (by kernel_rfl)] at h
  obtain ⟨ps, ⟨g0, t0, cs0, f0, p0, q0, hg0, ht0, hv0, hd0, ⟨g1, t1, cs1, f1, p1, q1, hg1, ht1, hv1, hd1, _, _⟩, _⟩, _, _⟩ := h
  obtain rfl := Option.some.inj (g64.symm.trans hg1)
  obtain rfl := Option.some.inj (g64t.symm.trans ht1)
  have hd1' := hd1
  rw [tab_data] at hd1'
  have hcs := Lib.cells_of_tab Tryd.underlying101 Tryd.underlying5 (by kernel_rfl) (by kernel_rfl) hd1'
  intro j hj
  have hv := World.var?_cell hg1 hv1 j
  rw [hv]
  obtain ⟨l1⟩ := cs1
  subst hcs
  simp [List.getElem?_eq_getElem hj, List.getD]
end Go.Proofs.YtknhgfmjchfnjaaDoor
