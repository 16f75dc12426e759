/- Chapter 39: the example of the chapter; lists of equal whole numbers. -/
import Derived.Test.YtnnknbghfbjcnaaHROrd
import Derived.Test.YtnnknbghfbjcnaaF32
import Derived.Test.YtnnknbghfbjcnaaF36
namespace Go.Proofs.Ytnnknbghfbjcnaa.Print
open Go.RowKit Go.Proofs.YtnnknbghfbjcnaaW.PrintWords Go.Proofs.YtnnknbghfbjcnaaW.PrintLast Go.Proofs.YtnnknbghfbjcnaaW.PrintMore
set_option linter.unusedVariables false
set_option linter.unusedSimpArgs false

set_option maxRecDepth 100000 in
theorem lives39 : mapmakerlaw39_lives.f = some true := by kernel_rfl
theorem ints_l0 (l : List Int) (hl : l.length < 1000000000000) : ∀ (d i : Nat), i + d = l.length → Ev (fun k => mapmakerlaw39_ints.l0 k l l (i : Int)) true
  | 0, i, h => by
    refine Ev.step (f := fun _ => some true) (fun k => ?_) (Ev.now _)
    rw [mapmakerlaw39_ints.l0, if_neg (by omega)]
  | d + 1, i, h => by
    refine Ev.step (fun k => ?_) (ints_l0 l hl d (i + 1) (by omega))
    rw [mapmakerlaw39_ints.l0]
    simp only [show (i : Int) < (l.length : Int) by omega, show (0 : Int) ≤ (i : Int) by omega, if_true]
    rw [wrap_succ (show i < 1000000000000000 by omega)]
theorem ints39 (l : List Int) (hl : l.length < 1000000000000) : Ev (fun k => mapmakerlaw39_ints.f k l l) true := by
  refine Ev.congr (fun k => ?_) (ints_l0 l hl l.length 0 (by omega))
  rw [mapmakerlaw39_ints.f, if_pos rfl]
  rfl
end Go.Proofs.Ytnnknbghfbjcnaa.Print
