/- Written by a program of this claim's author (xprint.py, over the kit's print.py): the call of mapmaker/mapmakerref40.Lower comes to what the Lean function of its name says. -/
import Derived.Test.YtcfeehaoeaoegaaPrint0
import Derived.Test.YtcfeehaoeaoegaaHKREdges
import Derived.Test.YtcfeehaoeaoegaaHXShort
namespace Go.Proofs.Ytcfeehaoeaoegaa.Print
open Go.RowKit Go.Proofs.YtcfeehaoeaoegaaW.PrintWords Go.Proofs.YtcfeehaoeaoegaaW.PrintLast Go.Proofs.YtcfeehaoeaoegaaW.PrintMore
attribute [local go_sem] max2_int min2_int max_two min_two max_three min_three max_four min_four   -- for this text's walks alone
set_option linter.unusedVariables false
set_option linter.unusedSimpArgs false

/-! ### mapmakerref40_Lower: function 27 -/
def mapmakerref40_Lower.T8 : Bool × List (List Nat × List Nat) := (true, [([], []), ([], []), ([], []), ([], []), ([2, 3], [2, 3]), ([4], [4]), ([], []), ([], []), ([6, 7], [6, 7]), ([8], [8]), ([9], [9]), ([0, 1, 5, 10], [0, 1, 5, 10]), ([11], [11]), ([12], [12]), ([12], [12]), ([13, 11, 0, 1, 2, 3, 4, 5, 6, 7, 8, 9, 10, 11, 12, 13], [13]), ([14, 15, 0, 1, 2, 3, 4, 5, 6, 7, 8, 9, 10, 11, 12, 13, 14, 15], [14])])
def mapmakerref40_Lower.B8 : List Nat := [0, 0, 0, 0, 12, 28, 0, 0, 192, 448, 960, 2047, 4095, 8191, 8191, 16383, 65535]
theorem mapmakerref40_Lower.tab8 : rtab .any (opsOf Try.f27 8) = mapmakerref40_Lower.T8 := by kernel_rfl
theorem mapmakerref40_Lower.bits8 : waitsOk mapmakerref40_Lower.T8.2 mapmakerref40_Lower.B8 = true := by kernel_rfl
def mapmakerref40_Lower.T9 : Bool × List (List Nat × List Nat) := (true, [([], []), ([], []), ([], []), ([], []), ([2, 3], [2, 3]), ([4], [4]), ([], []), ([], []), ([6, 7], [6, 7]), ([8], [8]), ([9], [9]), ([0, 1, 5, 10], [0, 1, 5, 10]), ([11], [11]), ([12], [12]), ([12], [12]), ([13, 11, 0, 1, 2, 3, 4, 5, 6, 7, 8, 9, 10, 11, 12, 13], [13]), ([14, 15, 0, 1, 2, 3, 4, 5, 6, 7, 8, 9, 10, 11, 12, 13, 14, 15], [14])])
def mapmakerref40_Lower.B9 : List Nat := [0, 0, 0, 0, 12, 28, 0, 0, 192, 448, 960, 2047, 4095, 8191, 8191, 16383, 65535]
theorem mapmakerref40_Lower.tab9 : rtab .any (opsOf Try.f27 9) = mapmakerref40_Lower.T9 := by kernel_rfl
theorem mapmakerref40_Lower.bits9 : waitsOk mapmakerref40_Lower.T9.2 mapmakerref40_Lower.B9 = true := by kernel_rfl

end Go.Proofs.Ytcfeehaoeaoegaa.Print
