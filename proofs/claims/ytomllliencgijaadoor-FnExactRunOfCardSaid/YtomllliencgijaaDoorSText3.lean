/- FormatSystem of the reference: that it ends with a string. -/
import Derived.Test.YtomllliencgijaaDoorSText2
import Derived.Test.YtomllliencgijaaDoorFormat
import Derived.Test.YtomllliencgijaaDoorSysVS
import Derived.Test.YtomllliencgijaaDoorSysPlain
import Derived.Test.YtomllliencgijaaDoorDState
import Derived.Deep.RegionHeld3

namespace Go.Proofs.YtomllliencgijaaDoor
open Go.RowKit
set_option linter.unusedVariables false
set_option linter.unusedSimpArgs false
set_option maxRecDepth 100000

theorem fmtA_le (a : Int) : (fmtA a).length ≤ 6 := by
  unfold fmtA
  split
  · simp
  · split
    · simp
    · rw [List.length_map]; exact lets_len a
def FmtRes (N : Nat) (w : World) (e : Ending) (w' : World) : Prop := ∃ r : ByteArray, e = .returned (.string r) ∧ r.size ≤ N ∧ Below w.heap.size w w'
theorem size32 : (ByteArray.mk #[32]).size = 1 := rfl
end Go.Proofs.YtomllliencgijaaDoor
