/- Written by a program of this claim's author (xprint.py, over the kit's print.py): what a row reads of its arguments. -/
import Derived.Test.YtfnophaiamkmpaaPrint0
import Derived.Test.YtfnophaiamkmpaaM1
import Derived.KernelRfl
namespace Go.Proofs.Ytfnophaiamkmpaa.Print
open Go.RowKit Go.Proofs.YtfnophaiamkmpaaW.PrintWords Go.Proofs.YtfnophaiamkmpaaW.PrintLast Go.Proofs.YtfnophaiamkmpaaW.PrintMore
attribute [local go_sem] max2_int min2_int max_two min_two max_three min_three max_four min_four   -- for this text's walks alone
set_option linter.unusedVariables false
set_option linter.unusedSimpArgs false
def g58 (x : S58) : Prop := (Wf .i64 x.f0) ∧ (Wf .i64 x.f1)
theorem opT58 : Opens Try.prog k58 58 g58 := opens_iso (d := (Kd.pair (Kd.int .i64) (Kd.int .i64))) (f := (fun x : S58 => (x.f0, x.f1))) (fun p => (⟨p.1, p.2⟩ : S58)) (fun _ => rfl) (opens_struct Try.underlying58 (by kernel_rfl) (opensF_cons rfl (by kernel_rfl) (by decide) (opens_int Try.underlying3) (opensF_one rfl (by kernel_rfl) (opens_int Try.underlying3))))
theorem opS22 : Opens Try.prog (Kd.slice 58 k58) 22 (fun x : List (S58) => x.length * 16 ≤ 140737488351232 ∧ ∀ y ∈ x, g58 y) := opens_slice 16 Try.underlying22 (by kernel_rfl) (by kernel_rfl) opT58
def g24 (x : S24) : Prop := (Wf .i64 x.f0) ∧ (x.f1.length * 16 ≤ 140737488351232 ∧ ∀ y ∈ x.f1, g58 y)
theorem opT24 : Opens Try.prog k24 24 g24 := opens_iso (d := (Kd.pair (Kd.int .i64) (Kd.slice 58 k58))) (f := (fun x : S24 => (x.f0, x.f1))) (fun p => (⟨p.1, p.2⟩ : S24)) (fun _ => rfl) (opens_struct Try.underlying24 (by kernel_rfl) (opensF_cons rfl (by kernel_rfl) (by decide) (opens_int Try.underlying3) (opensF_one rfl (by kernel_rfl) opS22)))
theorem opS25 : Opens Try.prog (Kd.slice 3 (Kd.int .i64)) 25 (fun x : List Int => x.length * 8 ≤ 140737488351232 ∧ ∀ y ∈ x, Wf .i64 y) := opens_slice 8 Try.underlying25 (by kernel_rfl) (by kernel_rfl) (opens_int Try.underlying3)
end Go.Proofs.Ytfnophaiamkmpaa.Print
