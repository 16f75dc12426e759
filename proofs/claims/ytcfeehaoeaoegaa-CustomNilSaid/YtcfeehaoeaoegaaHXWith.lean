/- The call of mapmakerref05.With at a list that is only read: the list itself, or a new one. -/
import Derived.Test.YtcfeehaoeaoegaaHXShort
import Derived.Test.YtcfeehaoeaoegaaHSets
import Derived.Test.YtcfeehaoeaoegaaHP37c
import Derived.Test.YtcfeehaoeaoegaaPrint0
import Derived.Test.YtcfeehaoeaoegaaHXMap
namespace Go.Proofs.Ytcfeehaoeaoegaa.Print
open Go.RowKit Go.Proofs.YtcfeehaoeaoegaaW.PrintWords Go.Proofs.YtcfeehaoeaoegaaW.PrintLast Go.Proofs.YtcfeehaoeaoegaaW.PrintMore
set_option linter.unusedVariables false
set_option linter.unusedSimpArgs false

theorem take_getD_succ {l : List Int} {j : Nat} (h : j < l.length) : l.take (j + 1) = l.take j ++ [l.getD j 0] := by
  rw [List.take_add_one]
  simp [h]
end Go.Proofs.Ytcfeehaoeaoegaa.Print
