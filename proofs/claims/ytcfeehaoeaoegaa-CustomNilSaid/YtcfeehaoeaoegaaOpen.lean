/- Written by a program of this claim's author (xprint.py, over the kit's print.py): what a row reads of its arguments. -/
import Derived.Test.YtcfeehaoeaoegaaPrint0
import Derived.Test.YtcfeehaoeaoegaaHXOpen
import Derived.KernelRfl
namespace Go.Proofs.Ytcfeehaoeaoegaa.Print
open Go.RowKit Go.Proofs.YtcfeehaoeaoegaaW.PrintWords Go.Proofs.YtcfeehaoeaoegaaW.PrintLast Go.Proofs.YtcfeehaoeaoegaaW.PrintMore
attribute [local go_sem] max2_int min2_int max_two min_two max_three min_three max_four min_four   -- for this text's walks alone
set_option linter.unusedVariables false
set_option linter.unusedSimpArgs false

theorem opS25 : Opens Try.prog (Kd.slice 3 (Kd.int .i64)) 25 (fun x : List Int => x.length * 8 ≤ 140737488351232 ∧ ∀ y ∈ x, Wf .i64 y) := opens_slice 8 Try.underlying25 (by kernel_rfl) (by kernel_rfl) (opens_int Try.underlying3)
end Go.Proofs.Ytcfeehaoeaoegaa.Print
