/- The walk of the law HasTrace: traces have prefixes. -/
import Derived.Test.YtknhgfmjchfnjaaDoorSDraw3
import Derived.Test.YtknhgfmjchfnjaaDoorSysReach
import Derived.Test.YtknhgfmjchfnjaaDoorSysPlain2

namespace Go.Proofs.YtknhgfmjchfnjaaDoor
open Go.RowKit
set_option linter.unusedVariables false
set_option linter.unusedSimpArgs false
set_option maxRecDepth 100000

theorem extract_take (s : ByteArray) (k : Nat) : (s.extract 0 k).data.toList = s.data.toList.take k := by
  simp [ByteArray.data_extract, Array.toList_extract, List.extract]
end Go.Proofs.YtknhgfmjchfnjaaDoor
