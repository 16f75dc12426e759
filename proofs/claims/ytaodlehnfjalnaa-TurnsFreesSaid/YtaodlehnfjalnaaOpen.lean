/- Written by a program of this claim's author (xprint.py, over the kit's print.py): what a row reads of its arguments. -/
import Derived.Test.YtaodlehnfjalnaaPrint0
import Derived.Test.YtaodlehnfjalnaaM16
import Derived.KernelRfl
namespace Go.Proofs.Ytaodlehnfjalnaa.Print
open Go.RowKit Go.Proofs.YtaodlehnfjalnaaW.PrintWords Go.Proofs.YtaodlehnfjalnaaW.PrintLast Go.Proofs.YtaodlehnfjalnaaW.PrintMore
attribute [local go_sem] max2_int min2_int max_two min_two max_three min_three max_four min_four   -- for this text's walks alone
set_option linter.unusedVariables false
set_option linter.unusedSimpArgs false
theorem opS33 : Opens Try.prog (Kd.slice 3 (Kd.int .i64)) 33 (fun x : List Int => x.length * 8 ≤ 140737488351232 ∧ ∀ y ∈ x, Wf .i64 y) := opens_slice 8 Try.underlying33 (by kernel_rfl) (by kernel_rfl) (opens_int Try.underlying3)
def g158 (x : S158) : Prop := (Wf .i64 x.f0) ∧ (Wf .i64 x.f1)
theorem opT158 : Opens Try.prog k158 158 g158 := opens_iso (d := (Kd.pair (Kd.int .i64) (Kd.int .i64))) (f := (fun x : S158 => (x.f0, x.f1))) (fun p => (⟨p.1, p.2⟩ : S158)) (fun _ => rfl) (opens_struct Try.underlying158 (by kernel_rfl) (opensF_cons rfl (by kernel_rfl) (by decide) (opens_int Try.underlying3) (opensF_one rfl (by kernel_rfl) (opens_int Try.underlying3))))
theorem opS34 : Opens Try.prog (Kd.slice 158 k158) 34 (fun x : List (S158) => x.length * 16 ≤ 140737488351232 ∧ ∀ y ∈ x, g158 y) := opens_slice 16 Try.underlying34 (by kernel_rfl) (by kernel_rfl) opT158
def g120 (x : S120) : Prop := (Wf .i64 x.f0) ∧ (Wf .i64 x.f1)
theorem opT120 : Opens Try.prog k120 120 g120 := opens_iso (d := (Kd.pair (Kd.int .i64) (Kd.int .i64))) (f := (fun x : S120 => (x.f0, x.f1))) (fun p => (⟨p.1, p.2⟩ : S120)) (fun _ => rfl) (opens_struct Try.underlying120 (by kernel_rfl) (opensF_cons rfl (by kernel_rfl) (by decide) (opens_int Try.underlying3) (opensF_one rfl (by kernel_rfl) (opens_int Try.underlying3))))
theorem opS54 : Opens Try.prog (Kd.slice 120 k120) 54 (fun x : List (S120) => x.length * 16 ≤ 140737488351232 ∧ ∀ y ∈ x, g120 y) := opens_slice 16 Try.underlying54 (by kernel_rfl) (by kernel_rfl) opT120
def g56 (x : S56) : Prop := (x.f0.length * 16 ≤ 140737488351232 ∧ ∀ y ∈ x.f0, g120 y) ∧ (Wf .i64 x.f1) ∧ (Wf .i64 x.f2)
theorem opT56 : Opens Try.prog k56 56 g56 := opens_iso (d := (Kd.pair (Kd.slice 120 k120) (Kd.pair (Kd.int .i64) (Kd.int .i64)))) (f := (fun x : S56 => (x.f0, x.f1, x.f2))) (fun p => (⟨p.1, p.2.1, p.2.2⟩ : S56)) (fun _ => rfl) (opens_struct Try.underlying56 (by kernel_rfl) (opensF_cons rfl (by kernel_rfl) (by decide) opS54 (opensF_cons rfl (by kernel_rfl) (by decide) (opens_int Try.underlying3) (opensF_one rfl (by kernel_rfl) (opens_int Try.underlying3)))))
def g58 (x : S58) : Prop := (Wf .i64 x.f0) ∧ (Wf .i64 x.f1) ∧ (Wf .i64 x.f2) ∧ (Wf .i64 x.f3) ∧ (Wf .i64 x.f4) ∧ (g56 x.f5)
theorem opT58 : Opens Try.prog k58 58 g58 := opens_iso (d := (Kd.pair (Kd.int .i64) (Kd.pair (Kd.int .i64) (Kd.pair (Kd.int .i64) (Kd.pair (Kd.int .i64) (Kd.pair (Kd.int .i64) k56)))))) (f := (fun x : S58 => (x.f0, x.f1, x.f2, x.f3, x.f4, x.f5))) (fun p => (⟨p.1, p.2.1, p.2.2.1, p.2.2.2.1, p.2.2.2.2.1, p.2.2.2.2.2⟩ : S58)) (fun _ => rfl) (opens_struct Try.underlying58 (by kernel_rfl) (opensF_cons rfl (by kernel_rfl) (by decide) (opens_int Try.underlying3) (opensF_cons rfl (by kernel_rfl) (by decide) (opens_int Try.underlying3) (opensF_cons rfl (by kernel_rfl) (by decide) (opens_int Try.underlying3) (opensF_cons rfl (by kernel_rfl) (by decide) (opens_int Try.underlying3) (opensF_cons rfl (by kernel_rfl) (by decide) (opens_int Try.underlying3) (opensF_one rfl (by kernel_rfl) opT56)))))))
theorem opS35 : Opens Try.prog (Kd.slice 58 k58) 35 (fun x : List (S58) => x.length * 80 ≤ 140737488351232 ∧ ∀ y ∈ x, g58 y) := opens_slice 80 Try.underlying35 (by kernel_rfl) (by kernel_rfl) opT58
def g37 (x : S37) : Prop := (x.f0.length * 8 ≤ 140737488351232 ∧ ∀ y ∈ x.f0, Wf .i64 y) ∧ (x.f1.length * 16 ≤ 140737488351232 ∧ ∀ y ∈ x.f1, g158 y) ∧ (x.f2.length * 80 ≤ 140737488351232 ∧ ∀ y ∈ x.f2, g58 y)
theorem opT37 : Opens Try.prog k37 37 g37 := opens_iso (d := (Kd.pair (Kd.slice 3 (Kd.int .i64)) (Kd.pair (Kd.slice 158 k158) (Kd.slice 58 k58)))) (f := (fun x : S37 => (x.f0, x.f1, x.f2))) (fun p => (⟨p.1, p.2.1, p.2.2⟩ : S37)) (fun _ => rfl) (opens_struct Try.underlying37 (by kernel_rfl) (opensF_cons rfl (by kernel_rfl) (by decide) opS33 (opensF_cons rfl (by kernel_rfl) (by decide) opS34 (opensF_one rfl (by kernel_rfl) opS35))))
def g42 (x : S42) : Prop := (Wf .i64 x.f0) ∧ (Wf .i64 x.f1) ∧ (Wf .i64 x.f2) ∧ (True)
theorem opT42 : Opens Try.prog k42 42 g42 := opens_iso (d := (Kd.pair (Kd.int .i64) (Kd.pair (Kd.int .i64) (Kd.pair (Kd.int .i64) Kd.bool)))) (f := (fun x : S42 => (x.f0, x.f1, x.f2, x.f3))) (fun p => (⟨p.1, p.2.1, p.2.2.1, p.2.2.2⟩ : S42)) (fun _ => rfl) (opens_struct Try.underlying42 (by kernel_rfl) (opensF_cons rfl (by kernel_rfl) (by decide) (opens_int Try.underlying3) (opensF_cons rfl (by kernel_rfl) (by decide) (opens_int Try.underlying3) (opensF_cons rfl (by kernel_rfl) (by decide) (opens_int Try.underlying3) (opensF_one rfl (by kernel_rfl) (opens_bool Try.underlying4))))))
theorem opS30 : Opens Try.prog (Kd.slice 42 k42) 30 (fun x : List (S42) => x.length * 32 ≤ 140737488351232 ∧ ∀ y ∈ x, g42 y) := opens_slice 32 Try.underlying30 (by kernel_rfl) (by kernel_rfl) opT42
end Go.Proofs.Ytaodlehnfjalnaa.Print
