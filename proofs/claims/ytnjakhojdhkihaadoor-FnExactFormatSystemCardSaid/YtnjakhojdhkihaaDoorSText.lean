/- Numbers and pieces of a text: the kit's l19Num, l19Dec, l19Cut, and l2Parse: that they end, and what shape they give. -/
import Derived.Test.YtnjakhojdhkihaaDoorEOwn
import Derived.Test.YtnjakhojdhkihaaDoorDraw2
namespace Go.Proofs.YtnjakhojdhkihaaDoor
open Go.RowKit
set_option linter.unusedVariables false
set_option linter.unusedSimpArgs false
set_option maxRecDepth 100000

def NumRes (w : World) (e : Ending) (w' : World) : Prop := ∃ (n : Int) (b : Bool), e = .returned (.tuple #[.int .i64 n, .bool b]) ∧ w' = w
end Go.Proofs.YtnjakhojdhkihaaDoor
