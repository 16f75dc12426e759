/- Written by a program of this claim's author (xprint.py, over the kit's print.py): what a row reads of its arguments. -/
import Derived.Test.YtcfeehaoeaoegaaPrint0
import Derived.Test.YtcfeehaoeaoegaaM2
import Derived.KernelRfl
namespace Go.Proofs.Ytcfeehaoeaoegaa.Print
open Go.RowKit Go.Proofs.YtcfeehaoeaoegaaW.PrintWords Go.Proofs.YtcfeehaoeaoegaaW.PrintLast Go.Proofs.YtcfeehaoeaoegaaW.PrintMore
attribute [local go_sem] max2_int min2_int max_two min_two max_three min_three max_four min_four   -- for this text's walks alone
set_option linter.unusedVariables false
set_option linter.unusedSimpArgs false

def g38 (x : S38) : Prop := (Wf .i64 x.f0) ∧ (Wf .i64 x.f1)
theorem opT38 : Opens Try.prog k38 38 g38 := opens_iso (d := (Kd.pair (Kd.int .i64) (Kd.int .i64))) (f := (fun x : S38 => (x.f0, x.f1))) (fun p => (⟨p.1, p.2⟩ : S38)) (fun _ => rfl) (opens_struct Try.underlying38 (by kernel_rfl) (opensF_cons rfl (by kernel_rfl) (by decide) (opens_int Try.underlying3) (opensF_one rfl (by kernel_rfl) (opens_int Try.underlying3))))
theorem opS22 : Opens Try.prog (Kd.slice 38 k38) 22 (fun x : List (S38) => x.length * 16 ≤ 140737488351232 ∧ ∀ y ∈ x, g38 y) := opens_slice 16 Try.underlying22 (by kernel_rfl) (by kernel_rfl) opT38
def g24 (x : S24) : Prop := (Wf .i64 x.f0) ∧ (x.f1.length * 16 ≤ 140737488351232 ∧ ∀ y ∈ x.f1, g38 y)
theorem opT24 : Opens Try.prog k24 24 g24 := opens_iso (d := (Kd.pair (Kd.int .i64) (Kd.slice 38 k38))) (f := (fun x : S24 => (x.f0, x.f1))) (fun p => (⟨p.1, p.2⟩ : S24)) (fun _ => rfl) (opens_struct Try.underlying24 (by kernel_rfl) (opensF_cons rfl (by kernel_rfl) (by decide) (opens_int Try.underlying3) (opensF_one rfl (by kernel_rfl) opS22)))
theorem opS25 : Opens Try.prog (Kd.slice 3 (Kd.int .i64)) 25 (fun x : List Int => x.length * 8 ≤ 140737488351232 ∧ ∀ y ∈ x, Wf .i64 y) := opens_slice 8 Try.underlying25 (by kernel_rfl) (by kernel_rfl) (opens_int Try.underlying3)
end Go.Proofs.Ytcfeehaoeaoegaa.Print
