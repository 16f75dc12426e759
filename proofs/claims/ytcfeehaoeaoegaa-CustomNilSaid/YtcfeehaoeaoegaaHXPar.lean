/- Drawn regions in which several operations may come next; the parts of a function's code. -/
import Derived.Test.YtcfeehaoeaoegaaHXShort
namespace Go.Proofs.Ytcfeehaoeaoegaa.Print
open Go.RowKit Go.Proofs.YtcfeehaoeaoegaaW.PrintWords Go.Proofs.YtcfeehaoeaoegaaW.PrintLast Go.Proofs.YtcfeehaoeaoegaaW.PrintMore
set_option linter.unusedVariables false
set_option linter.unusedSimpArgs false

def codeL : Code → Code
  | .seq a _ => a
  | c => c
def codeR : Code → Code
  | .seq _ b => b
  | c => c
def regOps : Code → Array Oper
  | .region _ ops _ => ops
  | _ => #[]
section
variable {P : Program} {ops : Array Oper} {Q : Exit → Act → World → Prop} {md : Region.Mode} {S : World → Prop} {ds : List Nat}
theorem ready_ {rs : List Nat} {fuel : Nat} {l : Array Bool} {a : Act} {w : World} (hr : (Region.ready md ops l == rs) = true) (hne : rs ≠ []) (h : AllReadyL P md ops Q S ds fuel l a w rs) : wpAnyLast P md ops Q S ds (fuel + 1) l a w := wpAnyLast_ready (by simpa using hr) hne h
theorem more_ {i : Nat} {N : Option Tmp} {oi : Oper} {fuel : Nat} {l : Array Bool} {a : Act} {w : World} {rs : List Nat} (l' : Array Bool) (hi : ops[i]? = some oi) (hN : oi.dst = N) (hl : (l.setIfInBounds i true == l') = true) (hd : i ∉ ds)
    (h : ∀ K : Act → World → Prop, Shut (∀ a' w', S w' → (S w' → wpAnyLast P md ops Q S ds fuel l' a' w') → K a' w') → if Region.wanted oi (yielded ops a.tmps) = true then Oper.wp P oi a w K Q else K (a.put N undef) w)
    (hs : AllReadyL P md ops Q S ds fuel l a w rs) : AllReadyL P md ops Q S ds fuel l a w (i :: rs) := by
  subst hN
  have hl' := beq_iff_eq.1 hl
  subst hl'
  exact AllReadyL.cons hi hd (fun K hK => h K hK) hs
theorem m_ (i d : Nat) {n m fuel : Nat} {oi : Oper} {a : Act} {w : World} {rs : List Nat}
    (h : ∀ K : Act → World → Prop, Shut (∀ a' w', S w' → (S w' → wpAnyLast P md ops Q S ds fuel (bits n (m ||| (1 <<< i))) a' w') → K a' w') → if Region.wanted oi (yielded ops a.tmps) = true then Oper.wp P oi a w K Q else K (a.put (some d) undef) w)
    (hs : AllReadyL P md ops Q S ds fuel (bits n m) a w rs) (hi : ops[i]? = some oi := by rfl) (hN : oi.dst = some d := by rfl) (hl : ((bits n m).setIfInBounds i true == bits n (m ||| (1 <<< i))) = true := by kernel_rfl) (hd : i ∉ ds := by decide) : AllReadyL P md ops Q S ds fuel (bits n m) a w (i :: rs) := more_ (bits n (m ||| (1 <<< i))) hi hN hl hd h hs
end
end Go.Proofs.Ytcfeehaoeaoegaa.Print
